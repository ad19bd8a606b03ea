/-
  Books checked, in plain Lean: operands, conditions, patterns, links, rules, books.
-/
import Derived.Test.YtcebfkdhicbmkaaDoorTkO
import Derived.Test.YtcebfkdhicbmkaaDoorKeptW
import Derived.Test.YtcebfkdhicbmkaaDoorMmC
import Derived.Test.YtcebfkdhicbmkaaDoorMmW
namespace Go.Proofs.YtcebfkdhicbmkaaDoor
open Go.RowKit
set_option linter.unusedVariables false
set_option linter.unusedSimpArgs false
def emS(s:ByteArray):Bool:=s.toList.isEmpty
def inS(l:List ByteArray)(s:ByteArray):Bool:=l.any (fun x=>sameS x s)
def pat0:Pat:=⟨ByteArray.empty,ByteArray.empty,cond0,0,0⟩
def typ0:Typ:=⟨ByteArray.empty,[]⟩
def typI(ts:List Typ)(n:ByteArray):Nat:=ts.findIdx (fun t=>sameS t.name n)
def patI(l:List Pat)(n:ByteArray):Nat:=l.findIdx (fun p=>sameS p.var n)
def typAt(ts:List Typ)(n:ByteArray):Typ:=ts.getD (typI ts n) typ0
def freeE(s:ByteArray):Int:=if nameE s=0 then(if keptB s=true then 4 else 0)else nameE s
def valZ(o:Opd):Bool:=o.vkind==0&&o.vint==0&&emS o.vtext
def opdZ(o:Opd):Bool:=o.kind==0&&valZ o&&emS o.var&&emS o.field
def opdBad(o:Opd):Bool:=(o.kind !=3&&!emS o.var)||(o.kind==1&&!emS o.field)||(o.kind !=1&&!valZ o)
section
variable (ts:List Typ) (known:List Pat) (own:Typ)
def sideT(o:Opd):Typ:=if o.kind=3 then typAt ts (known.getD (patI known o.var) pat0).type else own
def sideE(o:Opd):Int:=
 if ¬ (1≤o.kind∧o.kind≤3)then 3
 else if o.kind=3∧known.length≤patI known o.var then 6
 else if opdBad o=true then 4
 else if o.kind=1 then valE ⟨o.vkind,o.vint,o.vtext⟩
 else if fldAt (sideT ts known own o).fields o.field<(sideT ts known own o).fields.length then 0 else 6
def sideK(o:Opd):Int:=if o.kind=1 then o.vkind else((sideT ts known own o).fields.getD (fldAt (sideT ts known own o).fields o.field) default).kind
def testE(c:Cond):Int:=
 if c.subs.length≠0 then 4
 else if sideE ts known own c.left≠0 then sideE ts known own c.left
 else if sideE ts known own c.right≠0 then sideE ts known own c.right
 else if sideK ts known own c.left=sideK ts known own c.right then 0 else 13
def condL(g:Cond→Int×Int):List Cond→Int→Int×Int
 |[],n=>(n,0)
 |c::r,n=>if(g c).2≠0 then(0,(g c).2)else if 12<n+(g c).1 then(0,1)else condL g r (n+(g c).1)
def condForm(c:Cond):Bool:=!opdZ c.left||!opdZ c.right||(c.kind==3&&decide (c.subs.length≠1))||(c.kind !=3&&decide (c.subs.length<2))
def condR:Nat→Cond→Int×Int
 |0,c=>if 1≤c.kind∧c.kind≤7 then(0,14)else(0,3)
 |f+1,c=>
  if 1≤c.kind∧c.kind≤7 then
   (if 4≤c.kind then(1,testE ts known own c)else if condForm c=true then(0,4)else condL (condR f) c.subs 0)
  else(0,3)
end
def noC(c:Cond):Bool:=c.kind==0&&decide (c.subs.length=0)&&opdZ c.left&&opdZ c.right
def winE(part:Nat)(p:Pat):Int:=
 if(part=0∧ ¬ (0≤p.window∧p.window≤2))∨(part=1∧p.window≠0)∨(part=2∧p.window≠1)∨(p.window=0∧p.n≠0)then 4
 else if(p.window=1∧ ¬ (0≤p.n∧p.n≤1073741824))∨(p.window=2∧ ¬ (1≤p.n∧p.n≤120))then 2 else 0
def patE(ts:List Typ)(known:List Pat)(ahead:List ByteArray)(p:Pat)(part:Nat):Int:=
 if freeE p.var≠0 then freeE p.var
 else if inS ahead p.var=true then 7
 else if ts.length≤typI ts p.type then 6
 else if winE part p≠0 then winE part p
 else if noC p.wher=true then 0
 else(condR ts known (typAt ts p.type) 8 p.wher).2
def hasP(l:List Pat)(n:ByteArray):Bool:=decide (patI l n<l.length)
def linkE(x:Rul)(k:Lnk):Int:=
 if(!hasP x.whens k.left&&!hasP x.nots k.left)||(!hasP x.whens k.right&&!hasP x.nots k.right)then 6
 else if sameS k.left k.right||(!hasP x.whens k.left&&!hasP x.whens k.right)then 4
 else if k.opts.length<1∨6<k.opts.length then 1
 else firstN (fun i=>optE (k.opts.getD i ⟨0,0,0⟩).rel (k.opts.getD i ⟨0,0,0⟩).lo (k.opts.getD i ⟨0,0,0⟩).hi) k.opts.length
def sumE(t:Typ)(field:ByteArray):Int:=
 if emS field=true then 0 else if fldAt t.fields field<t.fields.length then(if(t.fields.getD (fldAt t.fields field) default).kind=1 then 0 else 13)else 6
def opdD:Opd:=opd0
def emitE(ts:List Typ)(x:Rul):Int:=
 if emS x.etype=true then(if x.evals.length=0 then 0 else 4)
 else if ts.length≤typI ts x.etype then 6
 else if x.evals.length≠(typAt ts x.etype).fields.length then 13
 else firstN (fun i=>if(x.evals.getD i opd0).kind=2 then 4
  else if sideE ts x.whens (typAt ts x.etype) (x.evals.getD i opd0)≠0 then sideE ts x.whens (typAt ts x.etype) (x.evals.getD i opd0)
  else if sideK ts x.whens (typAt ts x.etype) (x.evals.getD i opd0)=((typAt ts x.etype).fields.getD i default).kind then 0 else 13) x.evals.length
def vars(l:List Pat):List ByteArray:=l.map Pat.var
def man0:Many:=⟨0,ByteArray.empty,pat0⟩
def whenE(ts:List Typ)(x:Rul)(i:Nat):Int:=patE ts (x.whens.take i) (vars (x.whens.take i)) (x.whens.getD i pat0) 0
def notE(ts:List Typ)(x:Rul)(i:Nat):Int:=patE ts x.whens (vars x.whens++vars (x.nots.take i)) (x.nots.getD i pat0) 1
def manyE(ts:List Typ)(x:Rul)(i:Nat):Int:=
 if(emS (x.manies.getD i man0).field=true∧ ¬ (1≤(x.manies.getD i man0).count∧(x.manies.getD i man0).count≤120))∨ ¬ (0≤(x.manies.getD i man0).count∧(x.manies.getD i man0).count≤1125899906842624)then 2
 else if patE ts x.whens (vars x.whens++vars x.nots++vars ((x.manies.take i).map Many.pat)) (x.manies.getD i man0).pat 2≠0 then patE ts x.whens (vars x.whens++vars x.nots++vars ((x.manies.take i).map Many.pat)) (x.manies.getD i man0).pat 2
 else sumE (typAt ts (x.manies.getD i man0).pat.type) (x.manies.getD i man0).field
def lnk0:Lnk:=⟨ByteArray.empty,[],ByteArray.empty⟩
def sizeB(x:Rul):Bool:=decide (x.whens.length<1)||decide (3<x.whens.length)||decide (2<x.nots.length)||decide (2<x.manies.length)||decide (6<x.links.length)
def ruleE(ts:List Typ)(x:Rul):Int:=
 if freeE x.name≠0 then freeE x.name
 else if sizeB x=true then 1
 else if firstN (whenE ts x) x.whens.length≠0 then firstN (whenE ts x) x.whens.length
 else if firstN (notE ts x) x.nots.length≠0 then firstN (notE ts x) x.nots.length
 else if firstN (manyE ts x) x.manies.length≠0 then firstN (manyE ts x) x.manies.length
 else if firstN (fun i=>linkE x (x.links.getD i lnk0)) x.links.length≠0 then firstN (fun i=>linkE x (x.links.getD i lnk0)) x.links.length
 else emitE ts x
def speaks(x:Rul)(n:ByteArray):Bool:=x.whens.any (fun p=>sameS p.type n)||x.nots.any (fun p=>sameS p.type n)||x.manies.any (fun m=>sameS m.pat.type n)
def comesB(rs:List Rul):Nat→ByteArray→ByteArray→Bool
 |0,_,_=>false
 |k+1,to,fr=>rs.any (fun x=>!emS x.etype&&speaks x fr&&(sameS x.etype to||comesB rs k to x.etype))
def endB(b:Bok):Bool:=b.types.any (fun t=>comesB b.rules b.rules.length t.name t.name)
def btypE(b:Bok)(i:Nat):Int:=
 if typE (b.types.getD i typ0).name (b.types.getD i typ0).fields≠0 then typE (b.types.getD i typ0).name (b.types.getD i typ0).fields
 else if keptB (b.types.getD i typ0).name=true∨(b.types.getD i typ0).fields.any (fun f=>keptB f.name)=true then 4
 else if typI (b.types.take i) (b.types.getD i typ0).name<i then 7 else 0
def rul00:Rul:=⟨ByteArray.empty,[],[],[],[],ByteArray.empty,[]⟩
def brulE(b:Bok)(i:Nat):Int:=
 if ruleE b.types (b.rules.getD i rul00)≠0 then ruleE b.types (b.rules.getD i rul00)
 else if(b.rules.take i).any (fun y=>sameS y.name (b.rules.getD i rul00).name)=true then 7 else 0
def bookE(b:Bok):Int:=
 if 6<b.types.length∨5<b.rules.length then 1
 else if firstN (btypE b) b.types.length≠0 then firstN (btypE b) b.types.length
 else if firstN (brulE b) b.rules.length≠0 then firstN (brulE b) b.rules.length
 else if endB b=true then 15 else 0
end Go.Proofs.YtcebfkdhicbmkaaDoor
