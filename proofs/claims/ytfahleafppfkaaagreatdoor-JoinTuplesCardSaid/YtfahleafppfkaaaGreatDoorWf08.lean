/-
  The walks of value.Compare and of its reference.
-/
import Derived.Test.YtfahleafppfkaaaGreatDoorWf01
import Derived.Test.YtfahleafppfkaaaGreatDoorWf07
import Derived.RegionTactic
import Derived.Deep.RegionWith
import Derived.StillTailTactics
import Derived.Test.YtfahleafppfkaaaGreatDoorWf06
namespace Go.Proofs.YtfahleafppfkaaaGreatDoor
open Go.RowKit
set_option linter.unusedVariables false
set_option linter.unusedSimpArgs false
def sg(x y:Int):Int:=if x<y then -1 else if y<x then 1 else 0
set_option maxHeartbeats 400000 in
theorem sign_any(a b:Int)(w:World):
  Calls Tryz.prog 160 #[.int .i64 a,.int .i64 b] w fun e w' =>e= .returned (.int .i64 (sg a b))∧w' =w:=by
 go_enter Tryz.func160,Tryz.ntmps160
 go_wp2
 all_goals(go_ret;refine⟨?_,rfl⟩;exact ret_int (by go_light;unfold sg;(repeat' split)<;>omega))
set_option maxHeartbeats 400000 in
theorem cmpInt_any(a b:Int)(w:World):
  Calls Tryz.prog 154 #[.int .i64 a,.int .i64 b] w fun e w' =>e= .returned (.int .i64 (sg a b))∧w' =w:=by
 go_enter Tryz.func154,Tryz.ntmps154
 go_wp2
 all_goals(go_ret;refine⟨?_,rfl⟩;exact ret_int (by go_light;unfold sg;(repeat' split)<;>omega))
def orI(x y:Int):Int:=if x=0 then y else x
def ZeroI(x:Int):Prop:=x=0
theorem ZeroI.out{x:Int}(h:ZeroI x):x=0:=h
set_option maxHeartbeats 400000 in
theorem or_any(x y:Int)(b:Nat)(w:World)(c0:w.cell? ⟨b,0,none⟩=some (.int .i64 x))(c1:w.cell? ⟨b,1,none⟩=some (.int .i64 y)):
  Calls Tryz.prog 153 #[.slice (some ⟨b,0,none⟩) 2 2] w fun e w' =>e= .returned (.int .i64 (orI x y))∧w' =w:=by
 go_enter Tryz.func153,Tryz.ntmps153
 go_wp2_with fail
 go_loop [8] (fun i=>(i= .int .i64 0)∨(i= .int .i64 1∧ZeroI x)∨(i= .int .i64 2∧ZeroI x∧ZeroI y)) (fun i=>(2 - intOf i).toNat)
 case atStart=>exact Or.inl rfl
 case round=>
  rcases hrel with rfl|⟨rfl,hx⟩|⟨rfl,hx,hy⟩
  ·by_cases hx:x=0
   ·have hx1:(x !=0)=false:=by simp[hx]
    have X:ZeroI x:=hx
    clear hx
    go_wp2
    go_round
    case rel=>exact Or.inr (Or.inl ⟨rfl,X⟩)
    case measure=>simp[intOf]
   ·have hx1:(x !=0)=true:=by simp[hx]
    have X:Hid (¬ x=0):=hx
    clear hx
    go_wp2
    go_ret
    exact⟨ret_int (by simp[orI,X.out]),rfl⟩
  ·by_cases hy:y=0
   ·have hy1:(y !=0)=false:=by simp[hy]
    have Y:ZeroI y:=hy
    clear hy
    go_wp2
    go_round
    case rel=>exact Or.inr (Or.inr ⟨rfl,hx,Y⟩)
    case measure=>simp[intOf]
   ·have hy1:(y !=0)=true:=by simp[hy]
    clear hy
    go_wp2
    go_ret
    have:=hx.out
    exact⟨ret_int (by simp[orI,this]),rfl⟩
  ·go_wp2
   go_ret
   have h1:=hx.out
   have h2:=hy.out
   exact⟨ret_int (by simp[orI,h1,h2]),rfl⟩
theorem compare_bytes(a b:List UInt8):Lib.compareBytes a b=if(a==b)=true then 0 else if Op.bytesLess a b=true then -1 else 1:=by
 induction a generalizing b with
 |nil=>cases b<;>simp[Lib.compareBytes,Op.bytesLess]
 |cons x xs ih=>
  cases b with
  |nil=>simp[Lib.compareBytes,Op.bytesLess]
  |cons y ys=>
   simp only[Lib.compareBytes,Op.bytesLess,ih ys]
   by_cases h1:x<y
   ·have hne: ¬ x=y:=fun e=>by subst e;exact absurd h1 (UInt8.lt_irrefl x)
    simp[h1,hne]
   ·by_cases h2:y<x
    ·have hne: ¬ x=y:=fun e=>by subst e;exact absurd h2 (UInt8.lt_irrefl x)
     simp[h1,h2,hne]
    ·have he:x=y:=UInt8.le_antisymm (UInt8.not_lt.1 h2) (UInt8.not_lt.1 h1)
     subst he
     simp[h1]
def cmpV(a b:Val):Int:=orI (sg a.int b.int) (Lib.compareBytes a.text.data.toList b.text.data.toList)
def cmpE(a b:Val):Int:=if valE a=0 then(if valE b=0 then(if a.kind=b.kind then 0 else 13)else valE b)else valE a
def cmpX(a b:Val):Int:=if cmpE a b=0 then cmpV a b else 0
theorem cmpV_int{a b:Val}(ha:valE a=0)(hb:valE b=0)(hk:a.kind=b.kind)(h1:a.kind=1):cmpV a b=sg a.int b.int:=by
 have e1:a.text.data.toList=[]:=by
  unfold valE at ha;rw[if_pos h1]at ha
  have:a.text.size=0:=by(repeat' split at ha)<;>omega
  have h:=(size_toList a.text).2 this
  rwa[ByteArray.toList_eq]at h
 have e2:b.text.data.toList=[]:=by
  unfold valE at hb;rw[if_pos (hk▸h1)]at hb
  have:b.text.size=0:=by(repeat' split at hb)<;>omega
  have h:=(size_toList b.text).2 this
  rwa[ByteArray.toList_eq]at h
 unfold cmpV orI
 rw[e1,e2]
 simp only[Lib.compareBytes]
 split<;>simp_all
theorem cmpV_text{a b:Val}(ha:valE a=0)(hb:valE b=0)(hk:a.kind=b.kind)(h1: ¬ a.kind=1):cmpV a b=Lib.compareBytes a.text.data.toList b.text.data.toList:=by
 have e1:a.int=0:=by
  unfold valE at ha;rw[if_neg h1]at ha;(repeat' split at ha)<;>omega
 have e2:b.int=0:=by
  unfold valE at hb;rw[if_neg (hk▸h1)]at hb;(repeat' split at hb)<;>omega
 simp[cmpV,orI,e1,e2,sg]
set_option maxHeartbeats 1000000 in
theorem ordered_any(a b:Val)(w:World)(ha:valE a=0)(hb:valE b=0)(hk:a.kind=b.kind):
  Calls Tryz.prog 125 #[.agg #[.int .i64 a.kind,.int .i64 a.int,.string a.text],.agg #[.int .i64 b.kind,.int .i64 b.int,.string b.text]] w fun e w' =>e= .returned (.int .i64 (cmpV a b))∧Below w.heap.size w w' :=by
 by_cases h1:a.kind=1
 ·have q1:(a.kind==1)=true:=by simp[h1]
  have V:Hid (cmpV a b=sg a.int b.int):=cmpV_int ha hb hk h1
  clear ha hb hk h1
  go_enter Tryz.func125,Tryz.ntmps125
  go_wp2_with (go_at_call 160;refine(sign_any _ _ _).mono ?_;rintro e w' ⟨rfl,rfl⟩)
  go_ret
  exact⟨ret_int V.out.symm,(by repeat(first|exact Below.refl _ _|(refine Below.alloc ?_ (by first|omega|(simp;done)) _)))⟩
 ·have q1:(a.kind==1)=false:=by simp[h1]
  have V:Hid (cmpV a b=if(a.text.toList==b.text.toList)=true then 0 else if Op.bytesLess a.text.toList b.text.toList=true then -1 else 1):=by
   show _=_
   rw[cmpV_text ha hb hk h1,compare_bytes,ByteArray.toList_eq,ByteArray.toList_eq]
  clear ha hb hk h1
  cases he:(a.text.toList==b.text.toList)<;>cases hl:Op.bytesLess a.text.toList b.text.toList
  all_goals
   go_enter Tryz.func125,Tryz.ntmps125
   go_wp2
   go_ret
   exact⟨ret_int (by rw[V.out,he,hl];simp),(by repeat(first|exact Below.refl _ _|(refine Below.alloc ?_ (by first|omega|(simp;done)) _)))⟩
set_option maxRecDepth 8000 in
set_option maxHeartbeats 2000000 in
theorem compare_any(a b:Val)(w:World)(ha:a.text.size≤maxLen)(hb:b.text.size≤maxLen):
  Calls Tryz.prog 117 #[.agg #[.int .i64 a.kind,.int .i64 a.int,.string a.text],.agg #[.int .i64 b.kind,.int .i64 b.int,.string b.text]] w fun e w' =>e= .returned (.tuple #[.int .i64 (cmpX a b),.int .i64 (cmpE a b)])∧Below w.heap.size w w' :=by
 have i0: ∀ w,(Instr.index 208 (.agg #[.int .i64 a.kind,.int .i64 a.int,.string a.text,.int .i64 b.kind,.int .i64 b.int,.string b.text]) (.int .i64 0)).run Tryz.prog w= .ok (.agg #[.int .i64 a.kind,.int .i64 a.int,.string a.text]) w:=fun _=>by kernel_rfl
 have i1: ∀ w,(Instr.index 208 (.agg #[.int .i64 a.kind,.int .i64 a.int,.string a.text,.int .i64 b.kind,.int .i64 b.int,.string b.text]) (.int .i64 1)).run Tryz.prog w= .ok (.agg #[.int .i64 b.kind,.int .i64 b.int,.string b.text]) w:=fun _=>by kernel_rfl
 go_enter Tryz.func117,Tryz.ntmps117
 go_wp2_with fail
 go_loopw [12] (fun i wr=>((i= .int .i64 0)∨(i= .int .i64 1∧ZeroI (valE a))∨(i= .int .i64 2∧ZeroI (valE a)∧ZeroI (valE b)))∧Below ((w.alloc (.cells #[.int .i64 a.kind,.int .i64 a.int,.string a.text] 72)).alloc (.cells #[.int .i64 b.kind,.int .i64 b.int,.string b.text] 72)).heap.size ((w.alloc (.cells #[.int .i64 a.kind,.int .i64 a.int,.string a.text] 72)).alloc (.cells #[.int .i64 b.kind,.int .i64 b.int,.string b.text] 72)) wr) (fun i _=>(2 - intOf i).toNat)
 case atStart=>exact⟨Or.inl rfl,Below.refl _ _⟩
 case round=>
  obtain⟨hrel,hbr⟩:=hrel
  obtain⟨hc_wr,hf_wr⟩:=bcell hbr;have hs_wr:=hbr.size;(try simp only[World.size_alloc,World.size_drew,World.size_setCell]at hs_wr);have z0_wr:w.heap.size<wr.heap.size:=(by omega);have z1_wr:w.heap.size+1<wr.heap.size:=(by omega)
  rcases hrel with rfl|⟨rfl,hx⟩|⟨rfl,hx,hy⟩
  ·by_cases hx:valE a=0
   ·have hx1:(valE a !=0)=false:=by simp[hx]
    have X:ZeroI (valE a):=hx
    clear hx
    go_wp2_with fail
    refine(valCheck_any _ _ _ _ ha).mono ?_
    rintro e w1 ⟨rfl,hb1⟩
    go_wp2
    go_roundw
    case rel=>exact⟨Or.inr (Or.inl ⟨rfl,X⟩),(by repeat(first|assumption|refine below_step ?_ (by assumption)|(refine Below.alloc ?_ (by(simp;omega)) _)))⟩
    case measure=>simp[intOf]
   ·have hx1:(valE a !=0)=true:=by simp[hx]
    have X:Hid (¬ valE a=0):=hx
    clear hx
    go_wp2_with fail
    refine(valCheck_any _ _ _ _ ha).mono ?_
    rintro e w1 ⟨rfl,hb1⟩
    go_wp2
    go_ret2
    have he:cmpE a b=valE a:=by simp[cmpE,X.out]
    exact⟨ret_ii (by simp[cmpX,he,X.out]) he.symm,(by repeat(first|exact Below.refl _ _|refine below_step ?_ (by assumption)|(refine Below.alloc ?_ (by first|omega|(simp;done)) _)))⟩
  ·by_cases hy:valE b=0
   ·have hx1:(valE b !=0)=false:=by simp[hy]
    have X:ZeroI (valE b):=hy
    clear hy
    go_wp2_with fail
    refine(valCheck_any _ _ _ _ hb).mono ?_
    rintro e w1 ⟨rfl,hb1⟩
    go_wp2
    go_roundw
    case rel=>exact⟨Or.inr (Or.inr ⟨rfl,hx,X⟩),(by repeat(first|assumption|refine below_step ?_ (by assumption)|(refine Below.alloc ?_ (by(simp;omega)) _)))⟩
    case measure=>simp[intOf]
   ·have hx1:(valE b !=0)=true:=by simp[hy]
    have X:Hid (¬ valE b=0):=hy
    clear hy
    go_wp2_with fail
    refine(valCheck_any _ _ _ _ hb).mono ?_
    rintro e w1 ⟨rfl,hb1⟩
    go_wp2
    go_ret2
    have ha0:=hx.out
    have he:cmpE a b=valE b:=by simp[cmpE,ha0,X.out]
    exact⟨ret_ii (by simp[cmpX,he,X.out]) he.symm,(by repeat(first|exact Below.refl _ _|refine below_step ?_ (by assumption)|(refine Below.alloc ?_ (by first|omega|(simp;done)) _)))⟩
  ·by_cases hk:a.kind=b.kind
   ·have k1:(a.kind !=b.kind)=false:=by simp[hk]
    have K:Hid (a.kind=b.kind):=hk
    clear hk
    obtain⟨wo,rfl⟩: ∃ wo:World,wo=wr:=⟨_,rfl⟩
    have cA:((wo.alloc (.cells #[.int .i64 (sg a.int b.int),.int .i64 (Lib.compareBytes a.text.data.toList b.text.data.toList)] 3)).drew).cell? ⟨wo.heap.size,0,none⟩=some (.int .i64 (sg a.int b.int)):=by simp
    have cB:((wo.alloc (.cells #[.int .i64 (sg a.int b.int),.int .i64 (Lib.compareBytes a.text.data.toList b.text.data.toList)] 3)).drew).cell? ⟨wo.heap.size,1,none⟩=some (.int .i64 (Lib.compareBytes a.text.data.toList b.text.data.toList)):=by simp
    go_wp2_with fail
    go_still_tail 10,(by kernel_rfl)
    still_call (cmpInt_any _ _ _)
    repeat still_step
    still_call (Tryz.strings_Compare _ _ _)
    refine wpStill_nil ?_
    change wpList _ _ _ _ _ wo.drew
    go_wp2_with (go_at_call 153;refine(or_any _ _ _ _ cA cB).mono ?_;rintro e w' ⟨rfl,rfl⟩)
    go_ret2
    have ha0:=hx.out
    have hb0:=hy.out
    have he:cmpE a b=0:=by simp[cmpE,ha0,hb0,K.out]
    exact⟨ret_ii (by simp[cmpX,he,cmpV]) he.symm,(by repeat(first|exact Below.refl _ _|refine below_step ?_ (by assumption)|refine below_step ?_ (Joins.below_draws _ _ _)|(refine Below.alloc ?_ (by first|omega|(simp;done)) _)))⟩
   ·have k1:(a.kind !=b.kind)=true:=by simp[hk]
    have K:Hid (¬ a.kind=b.kind):=hk
    clear hk
    go_wp2
    go_ret2
    have ha0:=hx.out
    have hb0:=hy.out
    have he:cmpE a b=13:=by simp[cmpE,ha0,hb0,K.out]
    exact⟨ret_ii (by simp[cmpX,he]) he.symm,(by repeat(first|exact Below.refl _ _|refine below_step ?_ (by assumption)|(refine Below.alloc ?_ (by first|omega|(simp;done)) _)))⟩
end Go.Proofs.YtfahleafppfkaaaGreatDoor
/-
  What a pattern takes, in plain Lean; that a book that was checked asks for nothing that is not there.
-/
namespace Go.Proofs.YtfahleafppfkaaaGreatDoor
open Go.RowKit
set_option linter.unusedVariables false
set_option linter.unusedSimpArgs false
def evT(ts:List Typ)(x:Eve):Typ:=ts.getD x.e.type.toNat default
def fldV(ts:List Typ)(x:Eve)(f:ByteArray):Val:=x.vals.getD (fldAt (evT ts x).fields f) default
structure EvGood (ts:List Typ) (x:Eve):Prop where
 lo:0≤x.e.type
 hi:x.e.type<ts.length
 ty:typE (evT ts x).name (evT ts x).fields=0
 len:x.vals.length=(evT ts x).fields.length
 val: ∀ i,i<x.vals.length→valE (x.vals.getD i default)=0∧(x.vals.getD i default).kind=((evT ts x).fields.getD i default).kind
section
variable (ts:List Typ) (wh:List Pat) (known:List Eve) (own:Eve)
def sideX(o:Opd):Eve:=if o.kind=3 then known.getD (patI wh o.var) default else own
def sideV(o:Opd):Val:=if o.kind=1 then⟨o.vkind,o.vint,o.vtext⟩else fldV ts (sideX wh known own o) o.field
def SideGood(o:Opd):Prop:=o.kind=1∨((o.kind=2∨(o.kind=3∧patI wh o.var<known.length))∧EvGood ts (sideX wh known own o)∧fldAt (evT ts (sideX wh known own o)).fields o.field<(evT ts (sideX wh known own o)).fields.length)
def testB(k n:Int):Bool:=if k=4 then n==0 else if k=5 then n !=0 else if k=6 then decide (n<0)else decide (n≤0)
def holdR:Nat→Cond→Bool
 |0,_=>false
 |f+1,c=>if c.kind=0 then true else if c.kind=3 then !(holdR f (c.subs.getD 0 cond0))else if c.kind=1 then c.subs.all (holdR f)else if c.kind=2 then c.subs.any (holdR f)else testB c.kind (cmpV (sideV ts wh known own c.left) (sideV ts wh known own c.right))
def HoldGood:Nat→Cond→Prop
 |0,_=>False
 |f+1,c=>c.kind=0∨(c.kind=3∧c.subs.length=1∧ ∀ s∈c.subs,HoldGood f s)∨((c.kind=1∨c.kind=2)∧ ∀ s∈c.subs,HoldGood f s)∨
   (4≤c.kind∧c.kind≤7∧SideGood ts wh known own c.left∧SideGood ts wh known own c.right∧cmpE (sideV ts wh known own c.left) (sideV ts wh known own c.right)=0)
end
def partL(x:Rul)(part:Int):List Pat:=if part=0 then x.whens else if part=1 then x.nots else if part=2 then x.manies.map Many.pat else []
def evE(ts:List Typ)(l:List Eve)(i:Nat):Int:=eventE ts (l.getD i default).e (l.getD i default).vals
def misE(ts:List Typ)(wh:List Pat)(l:List Eve)(i:Nat):Int:=if sameS (evT ts (l.getD i default)).name (wh.getD i pat0).type=true then 0 else 13
def takesR(ts:List Typ)(R:Rul)(part at_:Int)(x:Eve)(known:List Eve):Bool×Int:=
 if ¬ (0≤part∧part≤2)∨ ¬ (0≤at_∧at_<(partL R part).length)then(false,2)
 else if firstN (evE ts (x::known)) (known.length+1)≠0 then(false,firstN (evE ts (x::known)) (known.length+1))
 else if(known.length:Int)≠(if part=0 then at_ else R.whens.length)then(false,4)
 else if firstN (misE ts R.whens known) known.length≠0 then(false,13)
 else(sameS (evT ts x).name ((partL R part).getD at_.toNat pat0).type&&holdR ts R.whens known x 8 ((partL R part).getD at_.toNat pat0).wher,0)
def takesE(b:Bok)(rule part at_:Int)(x:Eve)(known:List Eve):Bool×Int:=
 if bookE b≠0 then(false,bookE b)
 else if ¬ (0≤rule∧rule<b.rules.length)then(false,2)
 else takesR b.types (b.rules.getD rule.toNat rul00) part at_ x known
theorem firstN_all{f:Nat→Int}{n:Nat}(h:firstN f n=0):AllZ f n:=by
 induction n with
 |zero=>exact allZ_zero f
 |succ n ih=>
  simp only[firstN]at h
  by_cases e:firstN f n=0
  ·rw[if_pos e]at h;exact allZ_succ (ih e) h
  ·rw[if_neg e]at h;exact absurd h e
theorem evGood_of{ts:List Typ}{x:Eve}(h:eventE ts x.e x.vals=0):EvGood ts x:=by
 unfold eventE at h
 by_cases h1:1≤x.e.number∧x.e.number≤1048576
 ·rw[if_pos h1]at h
  by_cases h2:0≤x.e.type∧x.e.type<ts.length
  ·rw[if_pos h2]at h
   by_cases h3:spanE x.e.start x.e.stop=0
   ·rw[if_pos h3]at h
    unfold fitE at h
    by_cases h4:typE (ts.getD x.e.type.toNat default).name (ts.getD x.e.type.toNat default).fields=0
    ·rw[if_pos h4]at h
     by_cases h5:firstN (valsE x.vals) x.vals.length=0
     ·rw[if_pos h5]at h
      by_cases h6:x.vals.length=(ts.getD x.e.type.toNat default).fields.length
      ·rw[if_pos h6]at h
       refine⟨h2.1,h2.2,h4,h6,fun i hi=>⟨firstN_all h5 i hi,?_⟩⟩
       have h7:=firstN_all h i hi
       unfold kindE at h7
       by_cases h8:(x.vals.getD i default).kind=((ts.getD x.e.type.toNat default).fields.getD i default).kind
       ·exact h8
       ·rw[if_neg h8]at h7;exact absurd h7 (by decide)
      ·rw[if_neg h6]at h;exact absurd h (by decide)
     ·rw[if_neg h5]at h;exact absurd h h5
    ·rw[if_neg h4]at h;exact absurd h h4
   ·rw[if_neg h3]at h;exact absurd h h3
  ·rw[if_neg h2]at h;exact absurd h (by decide)
 ·rw[if_neg h1]at h;exact absurd h (by decide)
theorem sameS_toL{a b:ByteArray}(h:sameS a b=true):a.toList=b.toList:=by simpa[sameS]using h
theorem sameS_congr{a b:ByteArray}(h:a.toList=b.toList)(c:ByteArray):sameS c a=sameS c b:=by unfold sameS;rw[h]
theorem typI_congr{ts:List Typ}{a b:ByteArray}(h:a.toList=b.toList):typI ts a=typI ts b:=by
 unfold typI
 congr 1
 funext t
 exact sameS_congr h t.name
theorem findIdx_first{α:Type}{l:List α}{p:α→Bool}{t:Nat}(ht:t<l.length)(hp:p l[t]=true)(hn: ∀ i (h:i<l.length),i<t→p l[i]=false):l.findIdx p=t:=by
 rw[List.findIdx_eq ht]
 exact⟨hp,fun j hj=>hn j (by omega) hj⟩
theorem findIdx_take{α:Type}{l:List α}{p:α→Bool}{k:Nat}(hk:(l.take k).findIdx p<(l.take k).length):l.findIdx p=(l.take k).findIdx p:=by
 have h1:=List.findIdx_getElem (w:=hk)
 have hl:(l.take k).length≤l.length:=by simp[List.length_take];omega
 refine findIdx_first (by omega) (by simpa using h1) (fun i hi hlt=>?_)
 have:=List.not_of_lt_findIdx hlt
 simpa using this
theorem types_once{b:Bok}(h:bookE b=0){t:Nat}(ht:t<b.types.length){n:ByteArray}(hn:sameS b.types[t].name n=true):typI b.types n=t:=by
 unfold bookE at h
 by_cases h0:6<b.types.length∨5<b.rules.length
 ·rw[if_pos h0]at h;exact absurd h (by decide)
 rw[if_neg h0]at h
 by_cases h1:firstN (btypE b) b.types.length≠0
 ·rw[if_pos h1]at h;exact absurd h h1
 have hz:=firstN_all (Classical.not_not.1 h1)
 have e:typI b.types n=typI b.types b.types[t].name:=typI_congr (sameS_toL hn).symm
 rw[e]
 refine findIdx_first ht (by simp[sameS]) (fun i hi hlt=>?_)
 have hb:=hz t ht
 unfold btypE at hb
 have hg:b.types.getD t typ0=b.types[t]:=by simp[List.getD,List.getElem?_eq_getElem ht]
 rw[hg]at hb
 by_cases c1:typE b.types[t].name b.types[t].fields≠0
 ·rw[if_pos c1]at hb;exact absurd hb c1
 rw[if_neg c1]at hb
 by_cases c2:keptB b.types[t].name=true∨b.types[t].fields.any (fun f=>keptB f.name)=true
 ·rw[if_pos c2]at hb;exact absurd hb (by decide)
 rw[if_neg c2]at hb
 by_cases c3:typI (b.types.take t) b.types[t].name<t
 ·rw[if_pos c3]at hb;exact absurd hb (by decide)
 cases hc:sameS b.types[i].name b.types[t].name with
 |false=>rfl
 |true=>
  exfalso
  apply c3
  unfold typI
  have hi2:i<(b.types.take t).length:=by rw[List.length_take];omega
  have:=List.findIdx_lt_length_of_exists (p:=fun u:Typ=>sameS u.name b.types[t].name) (xs:=b.types.take t) ⟨b.types[i],List.mem_iff_getElem.2 ⟨i,hi2,List.getElem_take⟩,hc⟩
  rw[List.length_take]at this
  omega
theorem typAt_of{b:Bok}(h:bookE b=0){x:Eve}(hx:EvGood b.types x){n:ByteArray}(hn:sameS (evT b.types x).name n=true):typAt b.types n=evT b.types x:=by
 have ht:x.e.type.toNat<b.types.length:=by have:=hx.lo;have:=hx.hi;omega
 have hg:evT b.types x=b.types[x.e.type.toNat]:=by unfold evT;simp[List.getD,List.getElem?_eq_getElem ht]
 rw[hg]at hn ⊢
 unfold typAt
 rw[types_once h ht hn]
 simp[List.getD,List.getElem?_eq_getElem ht]
theorem condL_all{g:Cond→Int×Int}: ∀ {l:List Cond} {n:Int},(condL g l n).2=0→ ∀ s∈l,(g s).2=0
 |[],_,_,s,hs=>by cases hs
 |c::r,n,h,s,hs=>by
  unfold condL at h
  by_cases h1:(g c).2≠0
  ·rw[if_pos h1]at h;exact absurd h h1
  rw[if_neg h1]at h
  by_cases h2:12<n+(g c).1
  ·rw[if_pos h2]at h;exact absurd h (by decide)
  rw[if_neg h2]at h
  rcases List.mem_cons.1 hs with rfl|hs
  ·exact Classical.not_not.1 h1
  ·exact condL_all h s hs
section
variable {ts:List Typ} {wh kn:List Pat} {known:List Eve} {own:Eve} {ow:Typ}
theorem side_good(hkn:kn=wh.take known.length)(hle:known.length≤wh.length)(hown:ow=evT ts own)(ho:EvGood ts own)(hk: ∀ i (h:i<known.length),EvGood ts known[i]∧typAt ts (wh.getD i pat0).type=evT ts known[i])
  {o:Opd}(h:sideE ts kn ow o=0):SideGood ts wh known own o∧valE (sideV ts wh known own o)=0∧sideK ts kn ow o=(sideV ts wh known own o).kind:=by
 have hlen:kn.length=known.length:=by rw[hkn,List.length_take];omega
 unfold sideE at h
 by_cases h1: ¬ (1≤o.kind∧o.kind≤3)
 ·rw[if_pos h1]at h;exact absurd h (by decide)
 rw[if_neg h1]at h
 by_cases h2:o.kind=3∧kn.length≤patI kn o.var
 ·rw[if_pos h2]at h;exact absurd h (by decide)
 rw[if_neg h2]at h
 by_cases h3:opdBad o=true
 ·rw[if_pos h3]at h;exact absurd h (by decide)
 rw[if_neg h3]at h
 by_cases h4:o.kind=1
 ·rw[if_pos h4]at h
  unfold SideGood sideV sideK
  rw[if_pos h4,if_pos h4]
  exact⟨.inl h4,h,rfl⟩
 rw[if_neg h4]at h
 by_cases h5:fldAt (sideT ts kn ow o).fields o.field<(sideT ts kn ow o).fields.length
 rotate_left
 ·rw[if_neg h5]at h;exact absurd h (by decide)
 have key:(o.kind=2∨(o.kind=3∧patI wh o.var<known.length))∧EvGood ts (sideX wh known own o)∧sideT ts kn ow o=evT ts (sideX wh known own o):=by
  unfold sideT sideX
  by_cases h6:o.kind=3
  ·rw[if_pos h6,if_pos h6]
   have hi:patI kn o.var<kn.length:=by
    apply Classical.byContradiction
    intro hn
    exact h2 ⟨h6,by omega⟩
   have he:patI wh o.var=patI kn o.var:=by
    unfold patI at hi ⊢
    rw[hkn]at hi ⊢
    exact findIdx_take hi
   have hw:patI wh o.var<known.length:=by omega
   obtain⟨g1,g2⟩:=hk _ hw
   have hg:known.getD (patI wh o.var) default=known[patI wh o.var]:=by simp[List.getD,List.getElem?_eq_getElem hw]
   have hkd:kn.getD (patI kn o.var) pat0=wh.getD (patI wh o.var) pat0:=by
    rw[←he,hkn]
    simp only[List.getD]
    rw[List.getElem?_take_of_lt hw]
   rw[hg,hkd]
   exact⟨.inr ⟨h6,hw⟩,g1,g2⟩
  ·rw[if_neg h6,if_neg h6]
   exact⟨.inl (by omega),ho,hown⟩
 obtain⟨k1,k2,k3⟩:=key
 rw[k3]at h5
 unfold SideGood sideV sideK
 rw[if_neg h4,if_neg h4,k3]
 have hv:=k2.val _ (show fldAt (evT ts (sideX wh known own o)).fields o.field<(sideX wh known own o).vals.length by rw[k2.len];exact h5)
 exact⟨.inr ⟨k1,k2,h5⟩,hv.1,hv.2.symm⟩
theorem cond_good(hkn:kn=wh.take known.length)(hle:known.length≤wh.length)(hown:ow=evT ts own)(ho:EvGood ts own)(hk: ∀ i (h:i<known.length),EvGood ts known[i]∧typAt ts (wh.getD i pat0).type=evT ts known[i]):
  ∀ {f:Nat} {c:Cond},(condR ts kn ow f c).2=0→HoldGood ts wh known own f c
 |0,c,h=>by
  unfold condR at h
  split at h<;>exact absurd h (by decide)
 |f+1,c,h=>by
  unfold condR at h
  by_cases h1:1≤c.kind∧c.kind≤7
  rotate_left
  ·rw[if_neg h1]at h;exact absurd h (by decide)
  rw[if_pos h1]at h
  unfold HoldGood
  by_cases h2:4≤c.kind
  ·rw[if_pos h2]at h
   refine .inr (.inr (.inr ⟨h2,h1.2,?_⟩))
   have h' :testE ts kn ow c=0:=h
   unfold testE at h'
   by_cases c1:c.subs.length≠0
   ·rw[if_pos c1]at h';exact absurd h' (by decide)
   rw[if_neg c1]at h'
   by_cases c2:sideE ts kn ow c.left≠0
   ·rw[if_pos c2]at h';exact absurd h' c2
   rw[if_neg c2]at h'
   by_cases c3:sideE ts kn ow c.right≠0
   ·rw[if_pos c3]at h';exact absurd h' c3
   rw[if_neg c3]at h'
   by_cases c4:sideK ts kn ow c.left=sideK ts kn ow c.right
   rotate_left
   ·rw[if_neg c4]at h';exact absurd h' (by decide)
   obtain⟨l1,l2,l3⟩:=side_good hkn hle hown ho hk (Classical.not_not.1 c2)
   obtain⟨r1,r2,r3⟩:=side_good hkn hle hown ho hk (Classical.not_not.1 c3)
   refine⟨l1,r1,?_⟩
   unfold cmpE
   rw[if_pos l2,if_pos r2,if_pos (by rw[←l3,←r3];exact c4)]
  ·rw[if_neg h2]at h
   by_cases h3:condForm c=true
   ·rw[if_pos h3]at h;exact absurd h (by decide)
   rw[if_neg h3]at h
   have hs: ∀ s∈c.subs,HoldGood ts wh known own f s:=fun s hs=>cond_good hkn hle hown ho hk (condL_all h s hs)
   by_cases h4:c.kind=3
   ·refine .inr (.inl ⟨h4,?_,hs⟩)
    apply Classical.byContradiction
    intro hn
    exact h3 (by simp[condForm,h4,hn])
   ·exact .inr (.inr (.inl ⟨by omega,hs⟩))
end
theorem rule_zero{b:Bok}(h:bookE b=0){r:Nat}(hr:r<b.rules.length):ruleE b.types b.rules[r]=0:=by
 unfold bookE at h
 by_cases h0:6<b.types.length∨5<b.rules.length
 ·rw[if_pos h0]at h;exact absurd h (by decide)
 rw[if_neg h0]at h
 by_cases h1:firstN (btypE b) b.types.length≠0
 ·rw[if_pos h1]at h;exact absurd h h1
 rw[if_neg h1]at h
 by_cases h2:firstN (brulE b) b.rules.length≠0
 ·rw[if_pos h2]at h;exact absurd h h2
 have hz:=firstN_all (Classical.not_not.1 h2) r hr
 unfold brulE at hz
 rw[show b.rules.getD r rul00=b.rules[r]by simp[List.getD,List.getElem?_eq_getElem hr]]at hz
 by_cases h3:ruleE b.types b.rules[r]≠0
 ·rw[if_pos h3]at hz;exact absurd hz h3
 ·exact Classical.not_not.1 h3
theorem part_zero{ts:List Typ}{x:Rul}(h:ruleE ts x=0){part:Int}(hp:0≤part∧part≤2){k:Nat}(hk:k<(partL x part).length):
  ∃ ahead,patE ts (if part=0 then x.whens.take k else x.whens) ahead ((partL x part).getD k pat0) part.toNat=0:=by
 unfold ruleE at h
 by_cases h1:freeE x.name≠0
 ·rw[if_pos h1]at h;exact absurd h h1
 rw[if_neg h1]at h
 by_cases h2:sizeB x=true
 ·rw[if_pos h2]at h;exact absurd h (by decide)
 rw[if_neg h2]at h
 by_cases h3:firstN (whenE ts x) x.whens.length≠0
 ·rw[if_pos h3]at h;exact absurd h h3
 rw[if_neg h3]at h
 by_cases h4:firstN (notE ts x) x.nots.length≠0
 ·rw[if_pos h4]at h;exact absurd h h4
 rw[if_neg h4]at h
 by_cases h5:firstN (manyE ts x) x.manies.length≠0
 ·rw[if_pos h5]at h;exact absurd h h5
 unfold partL at hk ⊢
 by_cases p0:part=0
 ·subst p0
  simp only[if_true]at hk ⊢
  exact⟨_,firstN_all (Classical.not_not.1 h3) k hk⟩
 by_cases p1:part=1
 ·subst p1
  simp only[if_true,show(1:Int)≠0 by decide,if_false]at hk ⊢
  exact⟨_,firstN_all (Classical.not_not.1 h4) k hk⟩
 ·obtain rfl:part=2:=by omega
  simp only[if_true,show(2:Int)≠0 by decide,show(2:Int)≠1 by decide,if_false]at hk ⊢
  have hk' :k<x.manies.length:=by simpa using hk
  have hz:=firstN_all (Classical.not_not.1 h5) k hk'
  unfold manyE at hz
  have e1:x.manies.getD k man0=x.manies[k]:=by simp[List.getD,List.getElem?_eq_getElem hk']
  have e2:(x.manies.map Many.pat).getD k pat0=x.manies[k].pat:=by simp[List.getD,List.getElem?_eq_getElem hk']
  rw[e1]at hz
  rw[e2]
  split at hz
  ·exact absurd hz (by decide)
  ·by_cases h6:patE ts x.whens (vars x.whens++vars x.nots++vars ((x.manies.take k).map Many.pat)) x.manies[k].pat 2≠0
   ·rw[if_pos h6]at hz;exact absurd hz h6
   ·exact⟨_,Classical.not_not.1 h6⟩
theorem takes_good{b:Bok}(h:bookE b=0){r:Nat}(hr:r<b.rules.length){part:Int}(hp:0≤part∧part≤2){k:Nat}(hk:k<(partL b.rules[r] part).length){x:Eve}{known:List Eve}
  (hx:EvGood b.types x)(hkn: ∀ i (hi:i<known.length),EvGood b.types known[i])(hl:(known.length:Int)=if part=0 then(k:Int)else b.rules[r].whens.length)(hm:AllZ (misE b.types b.rules[r].whens known) known.length)
  (hn:sameS (evT b.types x).name ((partL b.rules[r] part).getD k pat0).type=true):
  HoldGood b.types b.rules[r].whens known x 8 ((partL b.rules[r] part).getD k pat0).wher:=by
 obtain⟨ahead,hz⟩:=part_zero (rule_zero h hr) hp hk
 have hle:known.length≤b.rules[r].whens.length:=by
  by_cases p0:part=0
  ·rw[if_pos p0]at hl
   unfold partL at hk
   rw[if_pos p0]at hk
   omega
  ·rw[if_neg p0]at hl
   omega
 have hkk:(if part=0 then b.rules[r].whens.take k else b.rules[r].whens)=b.rules[r].whens.take known.length:=by
  by_cases p0:part=0
  ·rw[if_pos p0]at hl ⊢
   rw[show known.length=k by omega]
  ·rw[if_neg p0]at hl ⊢
   rw[show known.length=b.rules[r].whens.length by omega,List.take_length]
 unfold patE at hz
 by_cases h1:freeE ((partL b.rules[r] part).getD k pat0).var≠0
 ·rw[if_pos h1]at hz;exact absurd hz h1
 rw[if_neg h1]at hz
 by_cases h2:inS ahead ((partL b.rules[r] part).getD k pat0).var=true
 ·rw[if_pos h2]at hz;exact absurd hz (by decide)
 rw[if_neg h2]at hz
 by_cases h3:b.types.length≤typI b.types ((partL b.rules[r] part).getD k pat0).type
 ·rw[if_pos h3]at hz;exact absurd hz (by decide)
 rw[if_neg h3]at hz
 by_cases h4:winE part.toNat ((partL b.rules[r] part).getD k pat0)≠0
 ·rw[if_pos h4]at hz;exact absurd hz h4
 rw[if_neg h4]at hz
 by_cases h5:noC ((partL b.rules[r] part).getD k pat0).wher=true
 ·refine .inl ?_
  simp only[noC,Bool.and_eq_true,beq_iff_eq]at h5
  exact h5.1.1.1
 rw[if_neg h5]at hz
 refine cond_good hkk hle (typAt_of h hx hn) hx (fun i hi=>⟨hkn i hi,?_⟩) hz
 have hmi:=hm i hi
 unfold misE at hmi
 rw[show known.getD i default=known[i]by simp[List.getD,List.getElem?_eq_getElem hi]]at hmi
 by_cases c:sameS (evT b.types known[i]).name (b.rules[r].whens.getD i pat0).type=true
 ·exact typAt_of h (hkn i hi) c
 ·rw[if_neg c]at hmi;exact absurd hmi (by decide)
end Go.Proofs.YtfahleafppfkaaaGreatDoor
/-
  The walks of the reference's BookFault, third part: conditions. Printed by chkc.py.
-/
namespace Go.Proofs.YtfahleafppfkaaaGreatDoor
open Go.RowKit
set_option linter.unusedVariables false
set_option linter.unusedSimpArgs false
inductive CondOk:Cond→Prop where
 |mk {k:Int} {subs:List Cond} {l r:Opd} (hl:l.vtext.size≤maxLen) (hr:r.vtext.size≤maxLen) (hs: ∀ s∈subs,CondOk s):CondOk (.mk k subs l r)
theorem CondOk.left{c:Cond}(h:CondOk c):c.left.vtext.size≤maxLen:=by cases h;assumption
theorem CondOk.right{c:Cond}(h:CondOk c):c.right.vtext.size≤maxLen:=by cases h;assumption
theorem CondOk.subs{c:Cond}(h:CondOk c): ∀ s∈c.subs,CondOk s:=by cases h;assumption
def CndPostR(r:Int×Int)(w:World):Ending→World→Prop:=fun e w' =>
 ∃ k,e= .returned (.tuple #[.int .i64 k,.int .i64 r.2])∧Below w.heap.size w w' ∧(r.2=0→k=r.1)
theorem cnd_out{r:Int×Int}{w w' :World}{k e:Int}(hb:Below w.heap.size w w')(he:r.2=e)(hk:e=0→k=r.1):
  CndPostR r w (.returned (.tuple #[.int .i64 k,.int .i64 e])) w' :=⟨k,by rw[he],hb,fun h=>hk (he▸h)⟩
section
variable {g:Nat} {F G H S:Nat→Prop} {ao:Option Addr} {n cap:Nat} {bo:Option Addr} {m bcap:Nat} {oo:Option Addr} {k ocap:Nat} {so:Option Addr} {sn scap:Nat} {w0:World} {ts:List Typ} {known:List Pat} {own:Typ}
set_option maxRecDepth 8000 in
set_option maxHeartbeats 4000000 in
theorem noCondition_any(hg:g<w0.heap.size)(c:Cond)(hS:SlF S w0 14 CondF so sn scap c.subs):
  Calls Tryz.prog 146 #[.agg (cnd14 c.kind so sn scap c.left c.right).toArray] w0 fun e w' =>e= .returned (.bool (noC c))∧Below w0.heap.size w0 w' :=by
 have M:=Mem.begin hg ⟨0,0⟩
 have hle:=hS.le
 have NL:=Lib.hid hS.len
 have HV:Hid (noC c=(c.kind==0&&decide ((sn:Int)=0)&&opdZ c.left&&opdZ c.right)):=by show _=_;unfold noC;rw[NL.out];simp
 unfold cnd14
 clear hg hS
 go_enter Tryz.func146,Tryz.ntmps146
 go_wp2_with (with_reducible (first|(refine wB (L:=[]) M ?_;clear M;intro za w1 M)|refine wq M ?_))
 all_goals
  go_ret
  exact⟨ret_bool' (by rw[HV.out];simp[opdZ,valZ,emS, *]),M.new⟩
theorem condR_kind{f:Nat}{c:Cond}(h: ¬ (1≤c.kind∧c.kind≤7)):condR ts known own f c=(0,3):=by
 cases f<;>(unfold condR;rw[if_neg h])
theorem condR_deep{c:Cond}(h:1≤c.kind∧c.kind≤7):condR ts known own 0 c=(0,14):=by unfold condR;rw[if_pos h]
theorem condR_test{f:Nat}{c:Cond}(h:4≤c.kind∧c.kind≤7):condR ts known own (f+1) c=(1,testE ts known own c):=by unfold condR;rw[if_pos ⟨by omega,h.2⟩,if_pos h.1]
theorem condR_tree{f:Nat}{c:Cond}(h:1≤c.kind∧c.kind≤3):condR ts known own (f+1) c=if condForm c=true then(0,4)else condL (condR ts known own f) c.subs 0:=by unfold condR;rw[if_pos ⟨h.1,by omega⟩,if_neg (by omega)]
theorem condL_bound{q:Cond→Int×Int}(hq: ∀ c,(q c).2=0→0≤(q c).1∧(q c).1≤12): ∀ (l:List Cond) (s:Int),0≤s∧s≤12→(condL q l s).2=0→0≤(condL q l s).1∧(condL q l s).1≤12
 |[],s,h,_=>h
 |c::r,s,h,he=>by
  unfold condL at he ⊢
  by_cases h1:(q c).2≠0
  ·rw[if_pos h1]at he
   exact absurd he h1
  ·rw[if_neg h1]at he ⊢
   by_cases h2:12<s+(q c).1
   ·rw[if_pos h2]at he
    cases he
   ·rw[if_neg h2]at he ⊢
    have:=hq c (Classical.byContradiction h1)
    exact condL_bound hq r _ (by omega) he
theorem condR_bound: ∀ (f:Nat) (c:Cond),(condR ts known own f c).2=0→0≤(condR ts known own f c).1∧(condR ts known own f c).1≤12
 |0,c,h=>by
  by_cases hk:1≤c.kind∧c.kind≤7
  ·rw[condR_deep hk]at h;cases h
  ·rw[condR_kind hk]at h;cases h
 |f+1,c,h=>by
  by_cases hk:1≤c.kind∧c.kind≤7
  ·by_cases h4:4≤c.kind
   ·rw[condR_test ⟨h4,hk.2⟩]
    show(0:Int)≤1∧(1:Int)≤12
    decide
   ·rw[condR_tree ⟨hk.1,by omega⟩]at h ⊢
    by_cases hc:condForm c=true
    ·rw[if_pos hc]at h;cases h
    ·rw[if_neg hc]at h ⊢
     exact condL_bound (condR_bound f) _ _ (by decide) h
  ·rw[condR_kind hk]at h;cases h
set_option maxRecDepth 8000 in
set_option maxHeartbeats 4000000 in
theorem condFault_kind(hg:g<w0.heap.size)(hX:SlF F w0 2 typF ao n cap ts)(hts: ∀ t∈ts,typOk t)(hY:SlF G w0 18 patF bo m bcap known)(hkn: ∀ p∈known,typI ts p.type<ts.length)(hO:SlF H w0 2 (plainF fldC) oo k ocap own.fields)(hown:typOk own)(c:Cond)(d:Int)(f:Nat)(hk: ¬ (1≤c.kind∧c.kind≤7)):
  Calls Tryz.prog 147 #[.slice ao n cap,.slice bo m bcap,.agg #[.string own.name,.slice oo k ocap],.agg (cnd14 c.kind so sn scap c.left c.right).toArray,.int .i64 d] w0 (CndPostR (condR ts known own f c) w0):=by
 have hin:inB c.kind 1 7=false:=by rw[inB_false];exact hk
 have M:=Mem.begin hg ⟨0,0⟩
 rw[condR_kind hk]
 unfold cnd14
 clear hg hk hX hY hts hkn hO hown
 go_enter Tryz.func147,Tryz.ntmps147
 go_wp2_with (first|(with_reducible (first|(refine wB (L:=[]) M ?_;clear M;intro za w1 M)|(refine wB M ?_;clear M;intro zb w2 M)|refine wq M ?_))|(go_at_call 21;refine(in_any _ _ _ _).mono ?_;rintro e w4 ⟨rfl,rfl⟩;(try rw[hin])))
 go_ret2
 exact cnd_out M.new rfl (fun h=>absurd h (by decide))
set_option maxRecDepth 8000 in
set_option maxHeartbeats 4000000 in
theorem condFault_deep(hg:g<w0.heap.size)(hX:SlF F w0 2 typF ao n cap ts)(hts: ∀ t∈ts,typOk t)(hY:SlF G w0 18 patF bo m bcap known)(hkn: ∀ p∈known,typI ts p.type<ts.length)(hO:SlF H w0 2 (plainF fldC) oo k ocap own.fields)(hown:typOk own)(c:Cond)(d:Int)(hd:d=9)(hk:1≤c.kind∧c.kind≤7):
  Calls Tryz.prog 147 #[.slice ao n cap,.slice bo m bcap,.agg #[.string own.name,.slice oo k ocap],.agg (cnd14 c.kind so sn scap c.left c.right).toArray,.int .i64 d] w0 (CndPostR (condR ts known own 0 c) w0):=by
 have hin:inB c.kind 1 7=true:=by rw[inB_true];exact hk
 have M:=Mem.begin hg ⟨0,0⟩
 rw[condR_deep hk]
 unfold cnd14
 subst hd
 clear hg hk hX hY hts hkn hO hown
 go_enter Tryz.func147,Tryz.ntmps147
 go_wp2_with (first|(with_reducible (first|(refine wB (L:=[]) M ?_;clear M;intro za w1 M)|(refine wB M ?_;clear M;intro zb w2 M)|refine wq M ?_))|(go_at_call 21;refine(in_any _ _ _ _).mono ?_;rintro e w4 ⟨rfl,rfl⟩;(try rw[hin])))
 go_ret2
 exact cnd_out M.new rfl (fun h=>absurd h (by decide))
theorem testE_subs{c:Cond}(h:c.subs.length≠0):testE ts known own c=4:=by unfold testE;rw[if_pos h]
theorem testE_left{c:Cond}(h:c.subs.length=0)(h1:sideE ts known own c.left≠0):testE ts known own c=sideE ts known own c.left:=by unfold testE;rw[if_neg (by omega),if_pos h1]
theorem testE_right{c:Cond}(h:c.subs.length=0)(h1:sideE ts known own c.left=0)(h2:sideE ts known own c.right≠0):testE ts known own c=sideE ts known own c.right:=by unfold testE;rw[if_neg (by omega),if_neg (by omega),if_pos h2]
theorem testE_both{c:Cond}(h:c.subs.length=0)(h1:sideE ts known own c.left=0)(h2:sideE ts known own c.right=0):testE ts known own c=if sideK ts known own c.left=sideK ts known own c.right then 0 else 13:=by unfold testE;rw[if_neg (by omega),if_neg (by omega),if_neg (by omega)]
set_option maxRecDepth 8000 in
set_option maxHeartbeats 4000000 in
theorem condFault_test(hg:g<w0.heap.size)(hX:SlF F w0 2 typF ao n cap ts)(hts: ∀ t∈ts,typOk t)(hY:SlF G w0 18 patF bo m bcap known)(hkn: ∀ p∈known,typI ts p.type<ts.length)(hO:SlF H w0 2 (plainF fldC) oo k ocap own.fields)(hown:typOk own)(c:Cond)(hS:SlF S w0 14 CondF so sn scap c.subs)(hok:CondOk c)(d:Int)(f:Nat)(hd:1≤d∧d≤8)(hk:4≤c.kind∧c.kind≤7):
  Calls Tryz.prog 147 #[.slice ao n cap,.slice bo m bcap,.agg #[.string own.name,.slice oo k ocap],.agg (cnd14 c.kind so sn scap c.left c.right).toArray,.int .i64 d] w0 (CndPostR (condR ts known own (f+1) c) w0):=by
 have hin:inB c.kind 1 7=true:=by rw[inB_true];omega
 have M:=Mem.begin hg ⟨0,0⟩
 rw[condR_test hk]
 have hle:=hS.le
 have NL:=Lib.hid hS.len
 obtain⟨hd1,hd8⟩:=hd
 obtain⟨hk4,hk7⟩:=hk
 have HSL:Hid (∀ wx,Below w0.heap.size w0 wx→Calls Tryz.prog 149 #[.slice ao n cap,.slice bo m bcap,.agg #[.string own.name,.slice oo k ocap],.agg (opdC c.left).toArray] wx (SidePost ts known own c.left wx)):=fun wx hbx=>
  sideKind_any (Nat.lt_of_lt_of_le hg hbx.size) c.left hok.left (hX.below typF_firm hbx) hts (hY.below patF_firm hbx) hkn (hO.below (plainF_firm _) hbx) hown
 have HSR:Hid (∀ wx,Below w0.heap.size w0 wx→Calls Tryz.prog 149 #[.slice ao n cap,.slice bo m bcap,.agg #[.string own.name,.slice oo k ocap],.agg (opdC c.right).toArray] wx (SidePost ts known own c.right wx)):=fun wx hbx=>
  sideKind_any (Nat.lt_of_lt_of_le hg hbx.size) c.right hok.right (hX.below typF_firm hbx) hts (hY.below patF_firm hbx) hkn (hO.below (plainF_firm _) hbx) hown
 unfold cnd14
 unfold opdC SidePost at HSL HSR
 clear hg hX hY hts hkn hO hown hS hok
 by_cases hs:c.subs.length=0
 ·have hsn:sn=0:=by have:=NL.out;omega
  subst hsn
  by_cases h1:sideE ts known own c.left=0
  ·by_cases h2:sideE ts known own c.right=0
   ·have HV:=Lib.hid (testE_both hs h1 h2)
    simp only[h1,true_implies]at HSL
    simp only[h2,true_implies]at HSR
    generalize sideK ts known own c.left=kl at HV HSL
    generalize sideK ts known own c.right=kr at HV HSR
    clear hs h1 h2
    by_cases hkk:kl=kr
    ·subst hkk
     rw[if_pos rfl]at HV
     go_enter Tryz.func147,Tryz.ntmps147
     go_wp2_with (first|(with_reducible (first|(refine wB (L:=[]) M ?_;clear M;intro za w1 M)|(refine wB M ?_;clear M;intro zb w2 M)|refine wq M ?_))|(go_at_call 21;refine(in_any _ _ _ _).mono ?_;rintro e w4 ⟨rfl,rfl⟩;(try rw[hin]))|(go_at_call 149;with_reducible refine(HSL.out _ M.new).mono ?_;rintro e w5 ⟨kk,rfl,hb5,rfl⟩;replace M:=M.below hb5;clear hb5)|(go_at_call 149;with_reducible refine(HSR.out _ M.new).mono ?_;rintro e w5 ⟨kk,rfl,hb5,rfl⟩;replace M:=M.below hb5;clear hb5))
     go_ret2
     exact cnd_out M.new HV.out (fun _=>rfl)
    ·have hkb:(kl !=kr)=true:=by simpa using hkk
     rw[if_neg hkk]at HV
     clear hkk
     go_enter Tryz.func147,Tryz.ntmps147
     go_wp2_with (first|(with_reducible (first|(refine wB (L:=[]) M ?_;clear M;intro za w1 M)|(refine wB M ?_;clear M;intro zb w2 M)|refine wq M ?_))|(go_at_call 21;refine(in_any _ _ _ _).mono ?_;rintro e w4 ⟨rfl,rfl⟩;(try rw[hin]))|(go_at_call 149;with_reducible refine(HSL.out _ M.new).mono ?_;rintro e w5 ⟨kk,rfl,hb5,rfl⟩;replace M:=M.below hb5;clear hb5)|(go_at_call 149;with_reducible refine(HSR.out _ M.new).mono ?_;rintro e w5 ⟨kk,rfl,hb5,rfl⟩;replace M:=M.below hb5;clear hb5))
     go_ret2
     exact cnd_out M.new HV.out (fun h=>absurd h (by decide))
   ·have HV:=Lib.hid (testE_right hs h1 h2)
    simp only[h1,true_implies]at HSL
    have hb:(sideE ts known own c.right==0)=false:=by simpa using h2
    have H2:=Lib.hid h2
    generalize sideE ts known own c.right=er at HV HSR hb H2
    clear hs h1 h2
    go_enter Tryz.func147,Tryz.ntmps147
    go_wp2_with (first|(with_reducible (first|(refine wB (L:=[]) M ?_;clear M;intro za w1 M)|(refine wB M ?_;clear M;intro zb w2 M)|refine wq M ?_))|(go_at_call 21;refine(in_any _ _ _ _).mono ?_;rintro e w4 ⟨rfl,rfl⟩;(try rw[hin]))|(go_at_call 149;with_reducible refine(HSL.out _ M.new).mono ?_;rintro e w5 ⟨kk,rfl,hb5,rfl⟩;replace M:=M.below hb5;clear hb5)|(go_at_call 149;with_reducible refine(HSR.out _ M.new).mono ?_;rintro e w5 ⟨kk,rfl,hb5, -⟩;replace M:=M.below hb5;clear hb5))
    go_ret2
    exact cnd_out M.new HV.out (fun h=>absurd h H2.out)
  ·have HV:=Lib.hid (testE_left hs h1)
   have hb:(sideE ts known own c.left !=0)=true:=by simpa using h1
   have H1:=Lib.hid h1
   generalize sideE ts known own c.left=el at HV HSL hb H1
   clear hs h1
   go_enter Tryz.func147,Tryz.ntmps147
   go_wp2_with (first|(with_reducible (first|(refine wB (L:=[]) M ?_;clear M;intro za w1 M)|(refine wB M ?_;clear M;intro zb w2 M)|refine wq M ?_))|(go_at_call 21;refine(in_any _ _ _ _).mono ?_;rintro e w4 ⟨rfl,rfl⟩;(try rw[hin]))|(go_at_call 149;with_reducible refine(HSL.out _ M.new).mono ?_;rintro e w5 ⟨kk,rfl,hb5, -⟩;replace M:=M.below hb5;clear hb5))
   go_ret2
   exact cnd_out M.new HV.out (fun h=>absurd h H1.out)
 ·have HV:=Lib.hid (testE_subs (ts:=ts) (known:=known) (own:=own) hs)
  have hsn:(0:Int)<sn:=by have:=NL.out;omega
  clear hs HSL HSR
  go_enter Tryz.func147,Tryz.ntmps147
  go_wp2_with (first|(with_reducible (first|(refine wB (L:=[]) M ?_;clear M;intro za w1 M)|(refine wB M ?_;clear M;intro zb w2 M)|refine wq M ?_))|(go_at_call 21;refine(in_any _ _ _ _).mono ?_;rintro e w4 ⟨rfl,rfl⟩;(try rw[hin])))
  go_ret2
  exact cnd_out M.new HV.out (fun h=>absurd h (by decide))
end
end Go.Proofs.YtfahleafppfkaaaGreatDoor
