/-
  Books checked, in plain Lean: operands, conditions, patterns, links, rules, books.
-/
import Derived.Test.YtncmghnhfipklaaGreatDoorPu09
import Derived.Test.YtncmghnhfipklaaGreatDoorPu13
import Derived.Test.YtncmghnhfipklaaGreatDoorPu12
import Derived.Test.YtncmghnhfipklaaGreatDoorPu07
import Derived.Test.YtncmghnhfipklaaGreatDoorPu03
namespace Go.Proofs.YtncmghnhfipklaaGreatDoor
open Go.RowKit
set_option linter.unusedVariables false
set_option linter.unusedSimpArgs false
def emS(s:ByteArray):Bool:=s.toList.isEmpty
def inS(l:List ByteArray)(s:ByteArray):Bool:=l.any (fun x=>sameS x s)
def pat0:Pat:=⟨ByteArray.empty,ByteArray.empty,cond0,0,0⟩
def typ0:Typ:=⟨ByteArray.empty,[]⟩
def typI(ts:List Typ)(n:ByteArray):Nat:=ts.findIdx (fun t=>sameS t.name n)
def patI(l:List Pat)(n:ByteArray):Nat:=l.findIdx (fun p=>sameS p.var n)
def typAt(ts:List Typ)(n:ByteArray):Typ:=ts.getD (typI ts n) typ0
def freeE(s:ByteArray):Int:=if nameE s=0 then(if keptB s=true then 4 else 0)else nameE s
def valZ(o:Opd):Bool:=o.vkind==0&&o.vint==0&&emS o.vtext
def opdZ(o:Opd):Bool:=o.kind==0&&valZ o&&emS o.var&&emS o.field
def opdBad(o:Opd):Bool:=(o.kind !=3&&!emS o.var)||(o.kind==1&&!emS o.field)||(o.kind !=1&&!valZ o)
section
variable (ts:List Typ) (known:List Pat) (own:Typ)
def sideT(o:Opd):Typ:=if o.kind=3 then typAt ts (known.getD (patI known o.var) pat0).type else own
def sideE(o:Opd):Int:=
 if ¬ (1≤o.kind∧o.kind≤3)then 3
 else if o.kind=3∧known.length≤patI known o.var then 6
 else if opdBad o=true then 4
 else if o.kind=1 then valE ⟨o.vkind,o.vint,o.vtext⟩
 else if fldAt (sideT ts known own o).fields o.field<(sideT ts known own o).fields.length then 0 else 6
def sideK(o:Opd):Int:=if o.kind=1 then o.vkind else((sideT ts known own o).fields.getD (fldAt (sideT ts known own o).fields o.field) default).kind
def testE(c:Cond):Int:=
 if c.subs.length≠0 then 4
 else if sideE ts known own c.left≠0 then sideE ts known own c.left
 else if sideE ts known own c.right≠0 then sideE ts known own c.right
 else if sideK ts known own c.left=sideK ts known own c.right then 0 else 13
def condL(g:Cond→Int×Int):List Cond→Int→Int×Int
 |[],n=>(n,0)
 |c::r,n=>if(g c).2≠0 then(0,(g c).2)else if 12<n+(g c).1 then(0,1)else condL g r (n+(g c).1)
def condForm(c:Cond):Bool:=!opdZ c.left||!opdZ c.right||(c.kind==3&&decide (c.subs.length≠1))||(c.kind !=3&&decide (c.subs.length<2))
def condR:Nat→Cond→Int×Int
 |0,c=>if 1≤c.kind∧c.kind≤7 then(0,14)else(0,3)
 |f+1,c=>
  if 1≤c.kind∧c.kind≤7 then
   (if 4≤c.kind then(1,testE ts known own c)else if condForm c=true then(0,4)else condL (condR f) c.subs 0)
  else(0,3)
end
def noC(c:Cond):Bool:=c.kind==0&&decide (c.subs.length=0)&&opdZ c.left&&opdZ c.right
def winE(part:Nat)(p:Pat):Int:=
 if(part=0∧ ¬ (0≤p.window∧p.window≤2))∨(part=1∧p.window≠0)∨(part=2∧p.window≠1)∨(p.window=0∧p.n≠0)then 4
 else if(p.window=1∧ ¬ (0≤p.n∧p.n≤1073741824))∨(p.window=2∧ ¬ (1≤p.n∧p.n≤120))then 2 else 0
def patE(ts:List Typ)(known:List Pat)(ahead:List ByteArray)(p:Pat)(part:Nat):Int:=
 if freeE p.var≠0 then freeE p.var
 else if inS ahead p.var=true then 7
 else if ts.length≤typI ts p.type then 6
 else if winE part p≠0 then winE part p
 else if noC p.wher=true then 0
 else(condR ts known (typAt ts p.type) 8 p.wher).2
def hasP(l:List Pat)(n:ByteArray):Bool:=decide (patI l n<l.length)
def linkE(x:Rul)(k:Lnk):Int:=
 if(!hasP x.whens k.left&&!hasP x.nots k.left)||(!hasP x.whens k.right&&!hasP x.nots k.right)then 6
 else if sameS k.left k.right||(!hasP x.whens k.left&&!hasP x.whens k.right)then 4
 else if k.opts.length<1∨6<k.opts.length then 1
 else firstN (fun i=>optE (k.opts.getD i ⟨0,0,0⟩).rel (k.opts.getD i ⟨0,0,0⟩).lo (k.opts.getD i ⟨0,0,0⟩).hi) k.opts.length
def sumE(t:Typ)(field:ByteArray):Int:=
 if emS field=true then 0 else if fldAt t.fields field<t.fields.length then(if(t.fields.getD (fldAt t.fields field) default).kind=1 then 0 else 13)else 6
def emitE(ts:List Typ)(x:Rul):Int:=
 if emS x.etype=true then(if x.evals.length=0 then 0 else 4)
 else if ts.length≤typI ts x.etype then 6
 else if x.evals.length≠(typAt ts x.etype).fields.length then 13
 else firstN (fun i=>if(x.evals.getD i opd0).kind=2 then 4
  else if sideE ts x.whens (typAt ts x.etype) (x.evals.getD i opd0)≠0 then sideE ts x.whens (typAt ts x.etype) (x.evals.getD i opd0)
  else if sideK ts x.whens (typAt ts x.etype) (x.evals.getD i opd0)=((typAt ts x.etype).fields.getD i default).kind then 0 else 13) x.evals.length
def vars(l:List Pat):List ByteArray:=l.map Pat.var
def man0:Many:=⟨0,ByteArray.empty,pat0⟩
def whenE(ts:List Typ)(x:Rul)(i:Nat):Int:=patE ts (x.whens.take i) (vars (x.whens.take i)) (x.whens.getD i pat0) 0
def notE(ts:List Typ)(x:Rul)(i:Nat):Int:=patE ts x.whens (vars x.whens++vars (x.nots.take i)) (x.nots.getD i pat0) 1
def manyE(ts:List Typ)(x:Rul)(i:Nat):Int:=
 if(emS (x.manies.getD i man0).field=true∧ ¬ (1≤(x.manies.getD i man0).count∧(x.manies.getD i man0).count≤120))∨ ¬ (0≤(x.manies.getD i man0).count∧(x.manies.getD i man0).count≤1125899906842624)then 2
 else if patE ts x.whens (vars x.whens++vars x.nots++vars ((x.manies.take i).map Many.pat)) (x.manies.getD i man0).pat 2≠0 then patE ts x.whens (vars x.whens++vars x.nots++vars ((x.manies.take i).map Many.pat)) (x.manies.getD i man0).pat 2
 else sumE (typAt ts (x.manies.getD i man0).pat.type) (x.manies.getD i man0).field
def lnk0:Lnk:=⟨ByteArray.empty,[],ByteArray.empty⟩
def sizeB(x:Rul):Bool:=decide (x.whens.length<1)||decide (3<x.whens.length)||decide (2<x.nots.length)||decide (2<x.manies.length)||decide (6<x.links.length)
def ruleE(ts:List Typ)(x:Rul):Int:=
 if freeE x.name≠0 then freeE x.name
 else if sizeB x=true then 1
 else if firstN (whenE ts x) x.whens.length≠0 then firstN (whenE ts x) x.whens.length
 else if firstN (notE ts x) x.nots.length≠0 then firstN (notE ts x) x.nots.length
 else if firstN (manyE ts x) x.manies.length≠0 then firstN (manyE ts x) x.manies.length
 else if firstN (fun i=>linkE x (x.links.getD i lnk0)) x.links.length≠0 then firstN (fun i=>linkE x (x.links.getD i lnk0)) x.links.length
 else emitE ts x
def speaks(x:Rul)(n:ByteArray):Bool:=x.whens.any (fun p=>sameS p.type n)||x.nots.any (fun p=>sameS p.type n)||x.manies.any (fun m=>sameS m.pat.type n)
def comesB(rs:List Rul):Nat→ByteArray→ByteArray→Bool
 |0,_,_=>false
 |k+1,to,fr=>rs.any (fun x=>!emS x.etype&&speaks x fr&&(sameS x.etype to||comesB rs k to x.etype))
def endB(b:Bok):Bool:=b.types.any (fun t=>comesB b.rules b.rules.length t.name t.name)
def btypE(b:Bok)(i:Nat):Int:=
 if typE (b.types.getD i typ0).name (b.types.getD i typ0).fields≠0 then typE (b.types.getD i typ0).name (b.types.getD i typ0).fields
 else if keptB (b.types.getD i typ0).name=true∨(b.types.getD i typ0).fields.any (fun f=>keptB f.name)=true then 4
 else if typI (b.types.take i) (b.types.getD i typ0).name<i then 7 else 0
def rul00:Rul:=⟨ByteArray.empty,[],[],[],[],ByteArray.empty,[]⟩
def brulE(b:Bok)(i:Nat):Int:=
 if ruleE b.types (b.rules.getD i rul00)≠0 then ruleE b.types (b.rules.getD i rul00)
 else if(b.rules.take i).any (fun y=>sameS y.name (b.rules.getD i rul00).name)=true then 7 else 0
def bookE(b:Bok):Int:=
 if 6<b.types.length∨5<b.rules.length then 1
 else if firstN (btypE b) b.types.length≠0 then firstN (btypE b) b.types.length
 else if firstN (brulE b) b.rules.length≠0 then firstN (brulE b) b.rules.length
 else if endB b=true then 15 else 0
end Go.Proofs.YtncmghnhfipklaaGreatDoor
/-
  Plans, in plain Lean: the bounds between the points of a rule's patterns; how long it waits.
-/
namespace Go.Proofs.YtncmghnhfipklaaGreatDoor
open Go.RowKit
set_option linter.unusedVariables false
set_option linter.unusedSimpArgs false
def frG(w:List Pat):Mx:=fun r c=>if r=c then 0 else if r % 2=0∧c=r+1 then 0 else if r % 2=1∧c % 2=1∧r / 2<w.length∧c / 2<w.length∧(w.getD (c / 2) pat0).window=1 then(w.getD (c / 2) pat0).n else NOB
def atG(a b r:Nat):Nat:=if r=0 then 2*a else if r=1 then 2*a+1 else if r=2 then 2*b else 2*b+1
def celL(o:Mx)(a b r:Nat)(g:Mx)(c:Nat):Mx:=setB g (atG a b r) (atG a b c) (min (g (atG a b r) (atG a b c)) (o r c))
def rowL(o:Mx)(a b:Nat)(g:Mx)(r:Nat):Mx:=(List.range 4).foldl (celL o a b r) g
def lnkG(o:Mx)(a b:Nat)(g:Mx):Mx:=(List.range 4).foldl (rowL o a b) g
def stepF(l:List Pat)(s:Option Mx)(k:Lnk):Option Mx:=
 match s with
 |none=>none
 |some g=>if patI l k.left<l.length∧patI l k.right<l.length then(if codeO k.opts (listO k.opts)=0 then some (lnkG (at2 (listO k.opts)) (patI l k.left) (patI l k.right) g)else none)else some g
def linkF(x:Rul)(l:List Pat)(j:Nat):Option Mx:=(x.links.take j).foldl (stepF l) (some (frG x.whens))
theorem linkF_next{x:Rul}{l:List Pat}{j:Nat}(h:j<x.links.length):linkF x l (j+1)=stepF l (linkF x l j) x.links[j]:=by
 unfold linkF
 rw[←List.take_append_getElem h,List.foldl_append,List.foldl_cons,List.foldl_nil]
def npts(x:Rul)(more:List Pat):Nat:=2*(x.whens++more).length
def wholeF(x:Rul)(more:List Pat):Option Mx:=
 match linkF x (x.whens++more) x.links.length with
 |none=>none
 |some g=>if okb (npts x more) (shutF (npts x more) g)=true then some (shutF (npts x more) g)else none
def Small(n:Nat)(g:Mx):Prop:=RB n 0 g∧ ∀ x,x<n→g x x=0
theorem small_set{n:Nat}{g:Mx}(h:Small n g){i j:Nat}(hij:i≠j)(hi:i<n)(hj:j<n){v:Int}(hv:v=NOB∨(-2147483648≤v∧v≤2147483648)):Small n (setB g i j (min (g i j) v)):=by
 refine⟨fun a b ha hb=>?_,fun a ha=>?_⟩
 ·unfold setB
  split
  ·have:=h.1 i j hi hj
   unfold NOB at *
   omega
  ·exact h.1 a b ha hb
 ·unfold setB
  rw[if_neg (fun e=>hij (by rw[←e.1,←e.2]))]
  exact h.2 a ha
theorem atG_ne{a b r c:Nat}(hab:a≠b)(hr:r<4)(hc:c<4)(h:r≠c):atG a b r≠atG a b c:=by
 unfold atG
 (repeat' split)<;>omega
theorem atG_lt{a b r m:Nat}(ha:a<m)(hb:b<m):atG a b r<2*m:=by
 unfold atG
 (repeat' split)<;>omega
theorem setB_same{g:Mx}{i j:Nat}{v:Int}(h:v=g i j):setB g i j v=g:=by
 funext r c
 unfold setB
 split
 ·rename_i e;rw[h,e.1,e.2]
 ·rfl
theorem lnk_small{m:Nat}{g:Mx}(h:Small (2*m) g){o:List (List Int)}(ho:Good4 o){a b:Nat}(hab:a≠b)(ha:a<m)(hb:b<m):Small (2*m) (lnkG (at2 o) a b g):=
 fold_inv (rowL (at2 o) a b) (fun _ t=>Small (2*m) t) 4 g h fun r t hr T=>
  fold_inv (celL (at2 o) a b r) (fun _ t=>Small (2*m) t) 4 t T fun c t hc T=>by
   by_cases e:r=c
   ·subst e
    unfold celL
    rw[setB_same]
    ·exact T
    ·rw[ho.diag r hr,T.2 _ (atG_lt ha hb)];rfl
   ·exact small_set T (atG_ne hab hr hc e) (atG_lt ha hb) (atG_lt ha hb) (by have:=ho.rb r c hr hc;omega)
structure RulPl (x:Rul):Prop where
 w1:1≤x.whens.length
 w3:x.whens.length≤3
 n2:x.nots.length≤2
 m2:x.manies.length≤2
 l6:x.links.length≤6
 win: ∀ p∈x.whens,p.window=1→0≤p.n∧p.n≤1073741824
 many: ∀ m∈x.manies,0≤m.pat.n∧m.pat.n≤1073741824
 link: ∀ k∈x.links,sameS k.left k.right=false∧ ∀ o∈k.opts,optE o.rel o.lo o.hi=0
theorem same_refl_of{a b c:ByteArray}(h:sameS a b=true)(k:sameS a c=true):sameS b c=true:=by
 unfold sameS at *
 have h1:=beq_iff_eq.1 h
 have h2:=beq_iff_eq.1 k
 rw[←h1,h2]
 simp
theorem patI_at{l:List Pat}{s:ByteArray}(h:patI l s<l.length):sameS (l[patI l s]'h).var s=true:=List.findIdx_getElem (p:=fun p:Pat=>sameS p.var s) (xs:=l) (w:=h)
theorem patI_ne{l:List Pat}{a b:ByteArray}(h:sameS a b=false)(ha:patI l a<l.length)(hb:patI l b<l.length):patI l a≠patI l b:=fun e=>by
 have h1:=patI_at ha
 have h2:=patI_at hb
 have h3:sameS (l[patI l a]'ha).var b=true:=by
  have:(l[patI l a]'ha)=(l[patI l b]'hb):=by congr 1
  rw[this];exact h2
 rw[same_refl_of h1 h3]at h
 cases h
theorem fr_small{x:Rul}(h:RulPl x)(n:Nat):Small n (frG x.whens):=by
 refine⟨fun a b _ _=>?_,fun a _=>by unfold frG;rw[if_pos rfl]⟩
 unfold frG
 split
 ·right;omega
 ·split
  ·right;omega
  ·split
   ·rename_i e
    have hb:b / 2<x.whens.length:=e.2.2.2.1
    have hw:=e.2.2.2.2
    rw[show x.whens.getD (b / 2) pat0=x.whens[b / 2]by simp[List.getD,List.getElem?_eq_getElem hb]]at hw ⊢
    have:=h.win _ (List.getElem_mem hb) hw
    right;omega
   ·left;rfl
theorem link_small{x:Rul}(h:RulPl x)(l:List Pat): ∀ j,j≤x.links.length→ ∀ g,linkF x l j=some g→Small (2*l.length) g
 |0,_,g,hg=>by
  have:frG x.whens=g:=by injection hg
  subst this
  exact fr_small h _
 |j+1,hj,g,hg=>by
  have hlt:j<x.links.length:=by omega
  rw[linkF_next hlt]at hg
  have ih:=link_small h l j (by omega)
  obtain⟨h1,h2⟩:=h.link _ (List.getElem_mem hlt)
  unfold stepF at hg
  cases hm:linkF x l j with
  |none=>rw[hm]at hg;cases hg
  |some g0=>
   rw[hm]at hg
   simp only at hg
   split at hg
   ·rename_i hp
    split at hg
    ·rename_i hc
     injection hg with hg
     subst hg
     exact lnk_small (ih _ hm) ((listO_good h2).resolve_left (fun q=>q hc)).2 (patI_ne h1 hp.1 hp.2) hp.1 hp.2
    ·cases hg
   ·injection hg with hg
    subst hg
    exact ih _ hm
def latF(g:Mx)(w p:Nat):Int:=(List.range w).foldl (fun n i=>max n (g (2*i+1) p)) (g 1 p)
def plusF(b n:Int):Int:=if b=NOB then b else max (b+n) 0
def leastF(g:Mx)(w:Nat):Int:=(List.range w).foldl (fun n k=>min n (g (2*w+1) (2*k+1))) NOB
structure Pln where
 delay:Int
 whens:List Int
 nots:List Int
 manies:List Int
def pln0:Pln:=⟨0,[],[],[]⟩
def notD(x:Rul)(d:Int)(n:Pat):Int:=match wholeF x [n]with|none=>d|some g=>max d (leastF g x.whens.length)
def delayF(x:Rul)(k:Nat):Int:=(x.nots.take k).foldl (notD x) 0
def notW(x:Rul)(D:Int)(n:Pat):Int:=match wholeF x [n]with|none=>0|some g=>plusF (latF g x.whens.length (2*x.whens.length+1)) (D+1)
def planE(x:Rul):Pln×Int:=
 match wholeF x []with
 |none=>(pln0,16)
 |some f=>
  let D:=delayF x x.nots.length
  if D=NOB then(pln0,15)else(⟨D,(List.range x.whens.length).map (fun i=>plusF (latF f x.whens.length (2*i+1)) (D+1)),x.nots.map (notW x D),x.manies.map (fun m=>m.pat.n+D+1)⟩,0)
end Go.Proofs.YtncmghnhfipklaaGreatDoor
/-
  A checked book: what its plans want (plain). Matrices of small bounds pass the checks.
-/
namespace Go.Proofs.YtncmghnhfipklaaGreatDoor
open Go.RowKit
set_option linter.unusedVariables false
set_option linter.unusedSimpArgs false
theorem firstN_allP{f:Nat→Int}{n:Nat}(h:firstN f n=0):AllZ f n:=by
 induction n with
 |zero=>exact allZ_zero f
 |succ n ih=>
  simp only[firstN]at h
  by_cases e:firstN f n=0
  ·rw[if_pos e]at h;exact allZ_succ (ih e) h
  ·rw[if_neg e]at h;exact absurd h e
theorem allZ_first{f:Nat→Int}{n:Nat}(h:AllZ f n):firstN f n=0:=firstN_zero h
theorem rule_parts{ts:List Typ}{x:Rul}(h:ruleE ts x=0):sizeB x=false∧AllZ (whenE ts x) x.whens.length∧AllZ (notE ts x) x.nots.length∧AllZ (manyE ts x) x.manies.length∧AllZ (fun i=>linkE x (x.links.getD i lnk0)) x.links.length:=by
 unfold ruleE at h
 by_cases h1:freeE x.name≠0
 ·rw[if_pos h1]at h;exact absurd h h1
 rw[if_neg h1]at h
 by_cases h2:sizeB x=true
 ·rw[if_pos h2]at h;exact absurd h (by decide)
 rw[if_neg h2]at h
 by_cases h3:firstN (whenE ts x) x.whens.length≠0
 ·rw[if_pos h3]at h;exact absurd h h3
 rw[if_neg h3]at h
 by_cases h4:firstN (notE ts x) x.nots.length≠0
 ·rw[if_pos h4]at h;exact absurd h h4
 rw[if_neg h4]at h
 by_cases h5:firstN (manyE ts x) x.manies.length≠0
 ·rw[if_pos h5]at h;exact absurd h h5
 rw[if_neg h5]at h
 by_cases h6:firstN (fun i=>linkE x (x.links.getD i lnk0)) x.links.length≠0
 ·rw[if_pos h6]at h;exact absurd h h6
 exact⟨by simpa using h2,firstN_allP (Classical.not_not.1 h3),firstN_allP (Classical.not_not.1 h4),firstN_allP (Classical.not_not.1 h5),firstN_allP (Classical.not_not.1 h6)⟩
theorem pat_win{ts:List Typ}{kn:List Pat}{ah:List ByteArray}{p:Pat}{part:Nat}(h:patE ts kn ah p part=0):winE part p=0:=by
 unfold patE at h
 by_cases h1:freeE p.var≠0
 ·rw[if_pos h1]at h;exact absurd h h1
 rw[if_neg h1]at h
 by_cases h2:inS ah p.var=true
 ·rw[if_pos h2]at h;exact absurd h (by decide)
 rw[if_neg h2]at h
 by_cases h3:ts.length≤typI ts p.type
 ·rw[if_pos h3]at h;exact absurd h (by decide)
 rw[if_neg h3]at h
 by_cases h4:winE part p≠0
 ·rw[if_pos h4]at h;exact absurd h h4
 exact Classical.not_not.1 h4
theorem win_time{part:Nat}{p:Pat}(h:winE part p=0)(hw:p.window=1):0≤p.n∧p.n≤1073741824:=by
 unfold winE at h
 split at h
 ·exact absurd h (by decide)
 split at h
 ·exact absurd h (by decide)
 omega
theorem win_many{p:Pat}(h:winE 2 p=0):0≤p.n∧p.n≤1073741824:=by
 refine win_time h ?_
 unfold winE at h
 split at h
 ·exact absurd h (by decide)
 omega
theorem rul_pl{ts:List Typ}{x:Rul}(h:ruleE ts x=0):RulPl x:=by
 obtain⟨h2,h3,h4,h5,h6⟩:=rule_parts h
 simp only[sizeB,Bool.or_eq_false_iff,decide_eq_false_iff_not]at h2
 refine⟨by omega,by omega,by omega,by omega,by omega,fun p hp hw=>?_,fun m hm=>?_,fun k hk=>?_⟩
 ·obtain⟨i,hi,rfl⟩:=List.mem_iff_getElem.1 hp
  have:=h3 i hi
  unfold whenE at this
  rw[show x.whens.getD i pat0=x.whens[i]by simp[List.getD,List.getElem?_eq_getElem hi]]at this
  exact win_time (pat_win this) hw
 ·obtain⟨i,hi,rfl⟩:=List.mem_iff_getElem.1 hm
  have h8:=h5 i hi
  unfold manyE at h8
  rw[show x.manies.getD i man0=x.manies[i]by simp[List.getD,List.getElem?_eq_getElem hi]]at h8
  split at h8
  ·exact absurd h8 (by decide)
  split at h8
  ·rename_i h9;exact absurd h8 h9
  ·rename_i h9;exact win_many (pat_win (Classical.not_not.1 h9))
 ·obtain⟨i,hi,rfl⟩:=List.mem_iff_getElem.1 hk
  have h8:=h6 i hi
  simp only at h8
  rw[show x.links.getD i lnk0=x.links[i]by simp[List.getD,List.getElem?_eq_getElem hi]]at h8
  generalize x.links[i]=k at h8
  unfold linkE at h8
  split at h8
  ·exact absurd h8 (by decide)
  split at h8
  ·exact absurd h8 (by decide)
  rename_i h9
  split at h8
  ·exact absurd h8 (by decide)
  simp only[Bool.or_eq_true,not_or,Bool.not_eq_true]at h9
  refine⟨h9.1,fun o ho=>?_⟩
  obtain⟨j,hj,rfl⟩:=List.mem_iff_getElem.1 ho
  have h5:=firstN_allP h8 j hj
  rw[show k.opts.getD j ⟨0,0,0⟩=k.opts[j]by simp[List.getD,List.getElem?_eq_getElem hj]]at h5
  exact h5
theorem book_pl{b:Bok}(h:bookE b=0):b.types.length≤6∧b.rules.length≤5∧ ∀ x∈b.rules,RulPl x:=by
 unfold bookE at h
 by_cases h1:6<b.types.length∨5<b.rules.length
 ·rw[if_pos h1]at h;exact absurd h (by decide)
 rw[if_neg h1]at h
 by_cases h2:firstN (btypE b) b.types.length≠0
 ·rw[if_pos h2]at h;exact absurd h h2
 rw[if_neg h2]at h
 by_cases h3:firstN (brulE b) b.rules.length≠0
 ·rw[if_pos h3]at h;exact absurd h h3
 refine⟨by omega,by omega,fun x hx=>?_⟩
 obtain⟨i,hi,rfl⟩:=List.mem_iff_getElem.1 hx
 have h4:=firstN_allP (Classical.not_not.1 h3) i hi
 unfold brulE at h4
 rw[show b.rules.getD i rul00=b.rules[i]by simp[List.getD,List.getElem?_eq_getElem hi]]at h4
 split at h4
 ·rename_i h5;exact absurd h4 h5
 ·rename_i h5;exact rul_pl (Classical.not_not.1 h5)
end Go.Proofs.YtncmghnhfipklaaGreatDoor
/-
  The walks of bound.Close and its reference.
-/
namespace Go.Proofs.YtncmghnhfipklaaGreatDoor
open Go.RowKit
set_option linter.unusedVariables false
set_option linter.unusedSimpArgs false
def bndE(x:Int):Int:=if x≠NOB∧(x< -2147483648∨2147483648<x)then 2 else 0
def rowE(m:List (List Int))(n i:Nat):Int:=if at2 m i i=0 then firstN (fun j=>bndE (at2 m i j)) n else 4
def closE(m:List (List Int)):Int:=if matE m=0 then firstN (rowE m m.length) m.length else matE m
def closC(m:List (List Int)):Int:=if closE m=0 then(if okb m.length (shutF m.length (at2 m))=true then 0 else 16)else closE m
def closM(m:List (List Int)):List (List Int):=if closC m=0 then gridL m.length (shutF m.length (at2 m))else []
def ClosPost(m:List (List Int))(w:World)(x:Ending)(w' :World):Prop:=
 ∃ ao' n' cap',x= .returned (.tuple #[.slice ao' n' cap',.int .i64 (closC m)])∧Below w.heap.size w w' ∧SlF (from_ w.heap.size) w' 1 lineF ao' n' cap' (closM m)
theorem closE_row{m:List (List Int)}{q:Nat}{c:Int}(hE:matE m=0)(hA:AllZ (rowE m m.length) q)(hq:q<m.length)(h:rowE m m.length q=c)(hc:c≠0):closE m=c:=by
 unfold closE
 rw[if_pos hE,firstN_at hA hq (by rw[h];exact hc),h]
set_option maxHeartbeats 4000000 in
set_option maxRecDepth 100000 in
theorem close_any(F:Nat→Prop)(ao:Option Addr)(n cap:Nat)(m:List (List Int))(w:World)(hM:SlF F w 1 lineF ao n cap m):Calls Tryz.prog 49 #[.slice ao n cap] w (ClosPost m w):=by
 have NL:Hid (n=m.length):=hM.len
 have hle:=hM.le
 have HC:=Lib.hid (matCheck_any ao n cap m w (mat_old hM))
 have HM:=Lib.hid hM
 clear hM
 by_cases hE:matE m=0
 ·have ME:=Lib.hid hE
  obtain⟨h12,hsq⟩:=matE_square hE
  have SQ:=Lib.hid hsq
  rw[hE]at HC
  have hn12:n≤12:=by have:=NL.out;omega
  clear hE hsq h12
  go_enter Tryz.func49,Tryz.ntmps49
  go_wp2_with fail
  refine HC.out.mono ?_
  rintro e w1 ⟨rfl,hb1⟩
  go_wp2_with fail
  go_loopw [16] (fun i wr=> ∃ q:Nat,q≤n∧i= .int .i64 q∧Below w.heap.size w wr∧Hid (AllZ (rowE m m.length) q)) (fun i _=>n - (intOf i).toNat)
  case atStart=>exact⟨0,by omega,rfl,hb1,allZ_zero _⟩
  case round=>
   obtain⟨q,hq,rfl,hbr,AR⟩:=hrel
   by_cases hqn:q<n
   ·have hq1:(q:Int)<n:=by omega
    have hql:q<m.length:=by have:=NL.out;omega
    obtain⟨Aa,oa,ra,rca,hAa,hixa,hca,hra⟩:=line_at HM.out SQ.out hqn
    obtain⟨Ba,pa,hBa,hea,hixa2⟩:=hra q hqn
    have RA:=Lib.hid hra
    have CA:=Lib.hid hca
    have ca:wr.cell? ⟨Aa,oa+q,none⟩=some (.slice ra n rca):=(hbr.cell (p:=⟨Aa,oa+q,none⟩) hAa).trans hca
    have ea:wr.cell? ⟨Ba,pa+q,none⟩=some (.int .i64 (at2 m q q)):=(hbr.cell (p:=⟨Ba,pa+q,none⟩) hBa).trans hea
    have lA:Aa<wr.heap.size:=Nat.lt_of_lt_of_le hAa hbr.size
    have lB:Ba<wr.heap.size:=Nat.lt_of_lt_of_le hBa hbr.size
    clear hra hca hea
    by_cases hd:at2 m q q=0
    ·have hd1:(at2 m q q !=0)=false:=by simpa using hd
     go_wp2_with fail
     go_loopw [32] (fun j wr=> ∃ p:Nat,p≤n∧j= .int .i64 p∧Below w.heap.size w wr∧Hid (AllZ (fun j=>bndE (at2 m q j)) p)) (fun j _=>n - (intOf j).toNat)
     case atStart=>exact⟨0,by omega,rfl,hbr,allZ_zero _⟩
     case round=>
      obtain⟨p,hp,rfl,hbj,AZ⟩:=hrel
      clear ca ea lA lB
      have ca:wr.cell? ⟨Aa,oa+q,none⟩=some (.slice ra n rca):=(hbj.cell (p:=⟨Aa,oa+q,none⟩) hAa).trans CA.out
      have lA:Aa<wr.heap.size:=Nat.lt_of_lt_of_le hAa hbj.size
      by_cases hpn:p<n
      ·have hp1:(p:Int)<n:=by omega
       have hpl:p<m.length:=by have:=NL.out;omega
       obtain⟨Bb,pb,hBb,heb0,hixb⟩:=RA.out p hpn
       have heb:wr.cell? ⟨Bb,pb+p,none⟩=some (.int .i64 (at2 m q p)):=(hbj.cell (p:=⟨Bb,pb+p,none⟩) hBb).trans heb0
       have lb:Bb<wr.heap.size:=Nat.lt_of_lt_of_le hBb hbj.size
       clear heb0
       generalize hx:at2 m q p=x at heb
       by_cases hN:x=NOB
       ·have BZ:Hid (AllZ (fun j=>bndE (at2 m q j)) (p+1)):=allZ_succ AZ.out (by show bndE (at2 m q p)=0;rw[hx];unfold bndE;rw[if_neg (fun h=>h.1 hN)])
        have hN1:(x !=1152921504606846976)=false:=by rw[hN];rfl
        clear hN hx
        go_wp2
        go_roundw
        case rel=>exact⟨p+1,by omega,by go_num,hbj,BZ⟩
        case measure=>simp[intOf];omega
       ·have hN1:(x !=1152921504606846976)=true:=by unfold NOB at hN;simpa using hN
        by_cases hlo:x< -2147483648
        ·have hb2:bndE (at2 m q p)≠0:=by rw[hx];unfold bndE;rw[if_pos ⟨hN,Or.inl hlo⟩];decide
         have hb3:bndE (at2 m q p)=2:=by rw[hx];unfold bndE;rw[if_pos ⟨hN,Or.inl hlo⟩]
         have hin:inB x (-2147483648) 2147483648=false:=inB_false.2 (by omega)
         have C0:Hid (closE m=2):=closE_row ME.out AR.out hql (by unfold rowE;rw[if_pos hd];exact(firstN_at AZ.out hpl hb2).trans hb3) (by decide)
         have C:Hid (closC m=2):=by show _=_;unfold closC;rw[C0.out];rfl
         have M0:Hid (closM m=[]):=by show _=_;unfold closM;rw[C.out];rfl
         go_wp2
         go_ret2
         exact⟨none,0,0,by rw[C.out];rfl,hbj,by rw[M0.out];exact SlF.nil⟩
        ·by_cases hhi:2147483648<x
         ·have hb2:bndE (at2 m q p)≠0:=by rw[hx];unfold bndE;rw[if_pos ⟨hN,Or.inr hhi⟩];decide
          have hb3:bndE (at2 m q p)=2:=by rw[hx];unfold bndE;rw[if_pos ⟨hN,Or.inr hhi⟩]
          have hin:inB x (-2147483648) 2147483648=false:=inB_false.2 (by omega)
          have C0:Hid (closE m=2):=closE_row ME.out AR.out hql (by unfold rowE;rw[if_pos hd];exact(firstN_at AZ.out hpl hb2).trans hb3) (by decide)
          have C:Hid (closC m=2):=by show _=_;unfold closC;rw[C0.out];rfl
          have M0:Hid (closM m=[]):=by show _=_;unfold closM;rw[C.out];rfl
          go_wp2
          go_ret2
          exact⟨none,0,0,by rw[C.out];rfl,hbj,by rw[M0.out];exact SlF.nil⟩
         ·have BZ:Hid (AllZ (fun j=>bndE (at2 m q j)) (p+1)):=allZ_succ AZ.out (by show bndE (at2 m q p)=0;rw[hx];unfold bndE;rw[if_neg (by omega)])
          have hin:inB x (-2147483648) 2147483648=true:=inB_true.2 (by omega)
          clear hx
          go_wp2
          go_roundw
          case rel=>exact⟨p+1,by omega,by go_num,hbj,BZ⟩
          case measure=>simp[intOf];omega
      ·obtain rfl:p=n:=by omega
       have RZ:Hid (AllZ (rowE m m.length) (q+1)):=allZ_succ AR.out (by unfold rowE;rw[if_pos hd,←NL.out];exact firstN_zero AZ.out)
       go_wp2
       go_roundw
       case rel=>exact⟨q+1,by omega,by go_num,hbj,RZ⟩
       case measure=>simp[intOf];omega
    ·have hd1:(at2 m q q !=0)=true:=by simpa using hd
     have C0:Hid (closE m=4):=closE_row ME.out AR.out hql (by unfold rowE;rw[if_neg hd]) (by decide)
     have C:Hid (closC m=4):=by show _=_;unfold closC;rw[C0.out];rfl
     have M0:Hid (closM m=[]):=by show _=_;unfold closM;rw[C.out];rfl
     clear hd
     go_wp2
     go_ret2
     exact⟨none,0,0,by rw[C.out];rfl,(by repeat(assumption)),by rw[M0.out];exact SlF.nil⟩
   ·obtain rfl:q=n:=by omega
    have C0:Hid (closE m=0):=by show _=_;unfold closE;rw[if_pos ME.out];exact firstN_zero (fun j hj=>AR.out j (by have:=NL.out;omega))
    go_wp2_with fail
    refine(own_any F ao q cap m _ (HM.out.below lineF_firm hbr) hn12 SQ.out).mono ?_
    rintro e w2 ⟨ao2,cap2,gs,rfl,hb2,hG2⟩
    have hs2:=hb2.size
    have hs1:=hbr.size
    go_wp2_with fail
    refine(shut_any wr.heap.size ao2 q cap2 gs (at2 m) _ hs2 hG2).mono ?_
    rintro e w3 ⟨rfl,hb3,hG3⟩
    cases hok:okb q (shutF q (at2 m))with
    |false=>
     have C:Hid (closC m=16):=by show _=_;unfold closC;rw[if_pos C0.out,←NL.out,hok];rfl
     have M0:Hid (closM m=[]):=by show _=_;unfold closM;rw[C.out];rfl
     go_wp2
     go_ret2
     exact⟨none,0,0,by rw[C.out];rfl,(hbr.trans (hb2.mono hs1)).trans (hb3.mono hs1),by rw[M0.out];exact SlF.nil⟩
    |true=>
     have C:Hid (closC m=0):=by show _=_;unfold closC;rw[if_pos C0.out,←NL.out,hok];rfl
     have M0:Hid (closM m=gridL q (shutF q (at2 m))):=by show _=_;unfold closM;rw[if_pos C.out,←NL.out]
     have hS3:=hG3.toF (by omega)
     have HS3:=Lib.hid hS3
     clear hS3 hG3 hG2
     go_wp2
     go_ret2
     exact⟨ao2,q,cap2,by rw[C.out];rfl,(hbr.trans (hb2.mono hs1)).trans (hb3.mono hs1),by rw[M0.out];exact HS3.out.wide lineF_firm (fun b hb _=>Nat.le_trans hs1 hb)⟩
 ·have C:Hid (closC m=matE m):=by show _=_;unfold closC closE;rw[if_neg hE,if_neg hE]
  have M0:Hid (closM m=[]):=by show _=_;unfold closM;rw[C.out,if_neg hE]
  have hq:(matE m !=0)=true:=by simpa using hE
  clear hE
  go_enter Tryz.func49,Tryz.ntmps49
  go_wp2_with fail
  refine HC.out.mono ?_
  rintro e w1 ⟨rfl,hb1⟩
  go_wp2
  go_ret2
  exact⟨none,0,0,by rw[C.out];rfl,hb1,by rw[M0.out];exact SlF.nil⟩
end Go.Proofs.YtncmghnhfipklaaGreatDoor
/-
  Matrices of small bounds pass the checks (plain).
-/
namespace Go.Proofs.YtncmghnhfipklaaGreatDoor
open Go.RowKit
set_option linter.unusedVariables false
set_option linter.unusedSimpArgs false
theorem small_mat{n:Nat}{g:Mx}(hn:n≤12)(h:Small n g):matE (gridL n g)=0:=by
 unfold matE
 rw[gridL_len,if_neg (by omega)]
 refine allZ_first fun i hi=>?_
 unfold lineE
 rw[gridL_row hi,if_pos rfl]
 refine allZ_first fun k hk=>?_
 have e:((gridL n g).getD i []).getD k 0=g i k:=by
  have:=at2_gridL (g:=g) hi hk
  exact this
 unfold cellE
 rw[e]
 have:=h.1 i k hi hk
 unfold NOB at this
 rw[if_pos (by omega)]
theorem small_clos{n:Nat}{g:Mx}(hn:n≤12)(h:Small n g):closE (gridL n g)=0:=by
 unfold closE
 rw[if_pos (small_mat hn h),gridL_len]
 refine allZ_first fun i hi=>?_
 unfold rowE
 rw[at2_gridL hi hi,if_pos (h.2 i hi)]
 refine allZ_first fun j hj=>?_
 unfold bndE
 rw[at2_gridL hi hj]
 have:=h.1 i j hi hj
 rw[if_neg (by unfold NOB at *;omega)]
theorem fold_par{σ τ:Type}(f:σ→Nat→σ)(f' :τ→Nat→τ)(P:σ→τ→Prop)(n:Nat)(s:σ)(s' :τ)(h0:P s s')(hs: ∀ k t t',k<n→P t t' →P (f t k) (f' t' k)):P ((List.range n).foldl f s) ((List.range n).foldl f' s'):=by
 induction n with
 |zero=>exact h0
 |succ n ih=>
  rw[List.range_succ,List.foldl_append,List.foldl_append]
  exact hs n _ _ (Nat.lt_succ_self n) (ih (fun k t t' hk=>hs k t t' (by omega)))
def EqM(n:Nat)(g g' :Mx):Prop:= ∀ a b,a<n→b<n→g a b=g' a b
theorem shut_congr{n:Nat}{g g' :Mx}(h:EqM n g g'):EqM n (shutF n g) (shutF n g'):=
 fold_par (layF n) (layF n) (EqM n) n g g' h fun k t t' hk T=>
  fold_par (rowF n k) (rowF n k) (EqM n) n t t' T fun i t t' hi T=>
   fold_par (cellF k i) (cellF k i) (EqM n) n t t' T fun j t t' hj T a b ha hb=>by
    unfold cellF setB
    rw[T i j hi hj,T i k hi hk,T k j hk hj,T a b ha hb]
theorem okb_congr{n:Nat}{g g' :Mx}(h:EqM n g g'):okb n g=okb n g' :=by
 have key: ∀ {g g' :Mx},EqM n g g' →okM n g→okM n g' :=fun h k i hi=>by rw[←h i i hi hi];exact k i hi
 rw[Bool.eq_iff_iff,okb_iff,okb_iff]
 exact⟨key h,key fun a b ha hb=>(h a b ha hb).symm⟩
theorem eq_grid(n:Nat)(g:Mx):EqM n (at2 (gridL n g)) g:=fun a b ha hb=>at2_gridL ha hb
theorem clos_small{n:Nat}{g:Mx}(hn:n≤12)(h:Small n g):closC (gridL n g)=(if okb n (shutF n g)=true then 0 else 16)∧(okb n (shutF n g)=true→closM (gridL n g)=gridL n (shutF n g)):=by
 have hS:=shut_congr (eq_grid n g)
 have e1:closC (gridL n g)=(if okb n (shutF n g)=true then 0 else 16):=by
  unfold closC
  rw[if_pos (small_clos hn h),gridL_len,okb_congr hS]
 refine⟨e1,fun hk=>?_⟩
 unfold closM
 rw[e1,if_pos hk,if_pos rfl,gridL_len]
 exact gridL_congr fun r c hr hc=>hS r c hr hc
end Go.Proofs.YtncmghnhfipklaaGreatDoor
