/-
  A book as tokens, in plain Lean; words parted by blanks.
-/
import Derived.Test.YtcebfkdhicbmkaaDoorChkP
namespace Go.Proofs.YtcebfkdhicbmkaaDoor
open Go.RowKit
set_option linter.unusedVariables false
set_option linter.unusedSimpArgs false
structure Tkn where
 kind:Int
 text:ByteArray
 int:Int
def tknC(t:Tkn):List Value:=[.int .i64 t.kind,.string t.text,.int .i64 t.int]
def tknF:(Nat→Prop)→World→List Value→Tkn→Prop:=plainF tknC
theorem tknF_firm:Firm tknF:=plainF_firm _
def lowB(b:UInt8):Bool:=decide (97≤b.toNat)&&decide (b.toNat≤122)
def wordT(s:ByteArray):Tkn:=⟨if lowB (s.data.toList.headD 0)=true then 1 else 4,s,0⟩
def wordsB:List UInt8→List UInt8→List (List UInt8)
 |cur,[]=>if cur=[]then []else [cur]
 |cur,b::l=>if b=32 then(if cur=[]then wordsB [] l else cur::wordsB [] l)else wordsB (cur++[b]) l
def wordL(l:List UInt8):Tkn:=wordT ⟨l.toArray⟩
def spokL(s:ByteArray):List Tkn:=(wordsB [] s.data.toList).map wordL
theorem words_blank: ∀ (a cur b:List UInt8),wordsB cur (a++32::b)=wordsB cur a++wordsB [] b
 |[],cur,b=>by
  simp only[List.nil_append,wordsB]
  by_cases h:cur=[]<;>simp[h]
 |x::a,cur,b=>by
  simp only[List.cons_append,wordsB]
  by_cases h:x=32
  ·rw[if_pos h,if_pos h]
   by_cases hc:cur=[]
   ·rw[if_pos hc,if_pos hc,words_blank a [] b]
   ·rw[if_neg hc,if_neg hc,words_blank a [] b];rfl
  ·rw[if_neg h,if_neg h,words_blank a (cur++[x]) b]
theorem words_whole: ∀ (a cur:List UInt8),(∀ x∈a,x≠32)→wordsB cur a=if cur++a=[]then []else [cur++a]
 |[],cur,_=>by simp[wordsB]
 |x::a,cur,h=>by
  simp only[wordsB]
  rw[if_neg (h x (List.mem_cons_self ..)),words_whole a (cur++[x]) (fun y hy=>h y (List.mem_cons_of_mem _ hy))]
  simp
theorem words_one{a:List UInt8}(h: ∀ x∈a,x≠32)(hn:a≠[]):wordsB [] a=[a]:=by
 rw[words_whole a [] h]
 simp[hn]
structure Nm (s:ByteArray):Prop where
 pos:0<s.size
 few:s.size≤10
 bl: ∀ x∈s.data.toList,x≠32
theorem wordL_data(s:ByteArray):wordL s.data.toList=wordT s:=by
 unfold wordL
 congr 1
theorem spok_one{s:ByteArray}(h:Nm s):spokL s=[wordT s]:=by
 have hp:0<s.data.size:=h.pos
 unfold spokL
 rw[words_one h.bl (fun e=>by rw[←Array.length_toList,e]at hp;exact absurd hp (by simp))]
 simp[wordL_data]
def bl(a b:ByteArray):ByteArray:=a++⟨#[32]⟩++b
theorem spok_bl(a b:ByteArray):spokL (bl a b)=spokL a++spokL b:=by
 unfold spokL bl
 rw[ByteArray.data_append,ByteArray.data_append]
 simp only[Array.toList_append]
 rw[show a.data.toList++[32]++b.data.toList=a.data.toList++32::b.data.toList by simp]
 rw[words_blank,List.map_append]
def shNum(n:Int):List Tkn:=if n<0 then [wordT ⟨#[45]⟩,⟨2,ByteArray.empty, -n⟩]else [⟨2,ByteArray.empty,n⟩]
def shSide(o:Opd):List Tkn:=
 if o.kind=3 then [wordT o.var,wordT ⟨#[46]⟩,wordT o.field]else if o.kind=2 then [wordT o.field]else if o.vkind=1 then shNum o.vint else [⟨3,o.vtext,0⟩]
def shBrk(b:Bool)(l:List Tkn):List Tkn:=if b=true then wordT ⟨#[40]⟩::(l++[wordT ⟨#[41]⟩])else l
def shCat{α:Type}(f:Nat→α→List Tkn)(l:List α):List Tkn:=l.zipIdx.flatMap fun x=>f x.2 x.1
theorem shCat_nil{α:Type}(f:Nat→α→List Tkn):shCat f []=[]:=rfl
theorem shCat_snoc{α:Type}{f:Nat→α→List Tkn}{l:List α}{j:Nat}(h:j<l.length):shCat f (l.take (j+1))=shCat f (l.take j)++f j l[j]:=by
 unfold shCat
 rw[List.take_add_one,List.getElem?_eq_getElem h,List.zipIdx_append,List.flatMap_append]
 simp[List.length_take,Nat.min_eq_left (Nat.le_of_lt h)]
def cmpT(k:Int):ByteArray:=if k=4 then⟨#[61]⟩else if k=5 then⟨#[47,61]⟩else if k=6 then⟨#[60]⟩else⟨#[60,61]⟩
def andT(k:Int):ByteArray:=if k=1 then⟨#[97,110,100]⟩else⟨#[111,114]⟩
def shCond:Nat→Cond→List Tkn
 |0,_=>[]
 |f+1,c=>
  if c.kind=3 then wordT ⟨#[110,111,116]⟩::shBrk (decide ((c.subs.headD cond0).kind≤2)) (shCond f (c.subs.headD cond0))
  else if c.kind=1∨c.kind=2 then shCat (fun i x=>(if i=0 then []else [wordT (andT c.kind)])++shBrk (x.kind==c.kind||x.kind==2) (shCond f x)) c.subs
  else shSide c.left++wordT (cmpT c.kind)::shSide c.right
def shPat(p:Pat):List Tkn:=wordT p.var::wordT ⟨#[58]⟩::wordT p.type::(if p.wher.kind=0 then []else wordT ⟨#[91]⟩::(shCond 9 p.wher++[wordT ⟨#[93]⟩]))
def shOpt(rel:Int→ByteArray)(o:Opt):List Tkn:=
 wordT (rel o.rel)::(if o.hi<0∧o.lo=0 then []else wordT ⟨#[40]⟩::(shNum o.lo++wordT ⟨#[44]⟩::((if o.hi<0 then [wordT ⟨#[97,110,121]⟩]else shNum o.hi)++[wordT ⟨#[41]⟩])))
end Go.Proofs.YtcebfkdhicbmkaaDoor
