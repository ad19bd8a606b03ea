/-
  Plain data of books, and how they lie in memory. Printed by mklib.py out of the texts of src9.
-/
import Derived.Test.YtpnhkkjjdcjmgaaFoot
import Derived.Test.YtpnhkkjjdcjmgaaPlain
import Derived.Test.YtpnhkkjjdcjmgaaStr
import Derived.Lib.Hide
import Derived.WalkSpells
import Derived.WalkLawsBesides
import Derived.Deep.Light
import Derived.Deep.QuietTactic
import Derived.BigQuiet
import Derived.RegionTactic
import Derived.Maps.AppendAt
namespace Go.Proofs.Ytpnhkkjjdcjmgaa
open Go.RowKit
set_option linter.unusedVariables false
set_option linter.unusedSimpArgs false
structure Opd where
 kind:Int
 vkind:Int
 vint:Int
 vtext:ByteArray
 var:ByteArray
 field:ByteArray
def opd0:Opd:=⟨0,0,0,ByteArray.empty,ByteArray.empty,ByteArray.empty⟩
instance :Inhabited Opd:=⟨opd0⟩
inductive Cond where
 |mk (kind:Int) (subs:List Cond) (left right:Opd)
def Cond.kind:Cond→Int| .mk k _ _ _=>k
def Cond.subs:Cond→List Cond| .mk _ s _ _=>s
def Cond.left:Cond→Opd| .mk _ _ l _=>l
def Cond.right:Cond→Opd| .mk _ _ _ r=>r
def cond0:Cond:= .mk 0 [] opd0 opd0
instance :Inhabited Cond:=⟨cond0⟩
structure PS where
 pos:Nat
 e:Int
section
end
section
variable {T}
end
structure Pat where
 var:ByteArray
 type:ByteArray
 wher:Cond
 window:Int
 n:Int
structure Opt where
 rel:Int
 lo:Int
 hi:Int
structure Many where
 count:Int
 field:ByteArray
 pat:Pat
structure Lnk where
 left:ByteArray
 opts:List Opt
 right:ByteArray
structure Rul where
 name:ByteArray
 whens:List Pat
 nots:List Pat
 manies:List Many
 links:List Lnk
 etype:ByteArray
 evals:List Opd
structure Typ where
 name:ByteArray
 fields:List Fld
structure Bok where
 types:List Typ
 rules:List Rul
section
end
section
end
def ne_(b:Nat):Nat→Prop:=fun k=>k≠b
structure But (b:Nat) (w w' :World):Prop where
 below:Below b w w'
 rest: ∀ k,k<w.heap.size→k≠b→w'.heap[k]?=w.heap[k]?
theorem But.refl(b:Nat)(w:World):But b w w:=⟨Below.refl _ _,fun _ _ _=>rfl⟩
theorem But.size{b:Nat}{w w' :World}(h:But b w w'):w.heap.size≤w'.heap.size:=h.below.size
theorem But.trans{b:Nat}{u v w:World}(h:But b u v)(k:But b v w):But b u w:=
 ⟨h.below.trans k.below,fun i hi hb=>(k.rest i (Nat.lt_of_lt_of_le hi h.size) hb).trans (h.rest i hi hb)⟩
theorem But.of_below{b:Nat}{w w' :World}(h:Below w.heap.size w w')(hb:b≤w.heap.size):But b w w' :=⟨h.mono hb,fun k hk _=>h.block k hk⟩
theorem But.drews{b:Nat}{w:World}(n:Nat):But b w (w.drewN n):=⟨Joins.below_draws _ _ _,fun k hk _=>(Joins.below_draws (k+1) _ _:Below (k+1) w (w.drewN n)).block k (Nat.lt_succ_self k)⟩
theorem But.drew{b:Nat}{u w:World}(h:But b u w):But b u w.drew:=h.trans (But.drews 1)
theorem But.set{b:Nat}{u w:World}(h:But b u w)(i:Nat)(v:Value):But b u (w.setCell ⟨b,i,none⟩ v):=
 h.trans ⟨(Below.refl b w).setCell (p:=⟨b,i,none⟩) (Nat.le_refl _) v,fun k _ hk=>Below.heap_setCell _ _ _ _ hk⟩
theorem But.alloc{b:Nat}{u w:World}(h:But b u w)(hb:b≤w.heap.size)(x:Obj):But b u (w.alloc x):=h.trans (But.of_below (Joins.below_alloc1 w x) hb)
theorem But.step{b:Nat}{u w v:World}(h:But b u w)(k:Below w.heap.size w v)(hb:b≤w.heap.size):But b u v:=h.trans (But.of_below k hb)
theorem But.put{b:Nat}{u w:World}(h:But b u w){p:Addr}(hp:u.heap.size≤p.block)(hb:b<u.heap.size)(v:Value):But b u (w.setCell p v):=
 ⟨h.below.setCell (Nat.le_trans (Nat.le_of_lt hb) hp) v,fun k hk hkb=>(Below.heap_setCell _ _ _ _ (by omega)).trans (h.rest k hk hkb)⟩
theorem But.same{b:Nat}{w w' :World}(h:But b w w'):Same (ne_ b) (ne_ b) w w' :=⟨h.size,fun k hk hlt=>⟨hk,h.rest k hlt hk⟩⟩
theorem But.from_{b B:Nat}{w w' :World}(h:But b w w')(hb:b<B):Same (from_ B) (from_ B) w w' :=⟨h.size,fun k hk hlt=>⟨hk,h.rest k hlt (by show k≠b;have:B≤k:=hk;omega)⟩⟩
theorem But.cell{b:Nat}{w w' :World}(h:But b w w'){k:Nat}(hk:k<w.heap.size)(hkb:k≠b)(o:Nat):w'.cell? ⟨k,o,none⟩=w.cell? ⟨k,o,none⟩:=World.cell?_of_block (w:=w) (h.rest k hk hkb)
theorem But.frozen{b:Nat}{w w' :World}(h:But b w w'){k:Nat}(hk:k<w.heap.size)(hkb:k≠b)(o:Nat):w'.frozen? ⟨k,o,none⟩=w.frozen? ⟨k,o,none⟩:=World.frozen?_of_block (w:=w) (h.rest k hk hkb)
theorem But.new{b:Nat}{w w' :World}(h:But b w w')(hb:w'.heap[b]?=w.heap[b]?):Below w.heap.size w w' :=
 ⟨h.below.os,h.below.tape,h.below.output,h.size,fun k hk=>by
  by_cases e:k=b
  ·rw[e];exact hb
  ·exact h.rest k hk e⟩
def opdC(o:Opd):List Value:=[.int .i64 o.kind,.int .i64 o.vkind,.int .i64 o.vint,.string o.vtext,.string o.var,.string o.field]
def opdF:(Nat→Prop)→World→List Value→Opd→Prop:=plainF opdC
theorem opdF_firm:Firm opdF:=plainF_firm _
inductive CondF (F:Nat→Prop) (w:World):List Value→Cond→Prop
 |mk (k:Int) (subs:List Cond) (l r:Opd) (ao:Option Addr) (n cap b off:Nat) (rows:Nat→List Value):
  n=subs.length→n≤cap→cap≤maxLen→(ao=none→cap=0)→
  (∀ i,i<subs.length→ao=some ⟨b,off,none⟩∧F b∧b<w.heap.size∧RowAt w b (off+i*14) 14 (rows i))→
  (∀ i (h:i<subs.length),CondF F w (rows i) subs[i])→
  CondF F w (.int .i64 k:: .slice ao n cap::(opdC l++opdC r)) (.mk k subs l r)
theorem CondF.same{F G:Nat→Prop}{w w' :World}(hs:Same F G w w'){row:List Value}{c:Cond}(h:CondF F w row c):CondF G w' row c:=by
 induction h with
 |mk k subs l r ao n cap b off rows h1 h2 h3 h4 h5 h6 ih=>
  refine .mk k subs l r ao n cap b off rows h1 h2 h3 h4 (fun i hi=>?_) ih
  obtain⟨e,hF,hlt,hr⟩:=h5 i hi
  obtain⟨hG,hb⟩:=hs.2 b hF hlt
  exact⟨e,hG,Nat.lt_of_lt_of_le hlt hs.1,rowAt_same hr hb⟩
theorem condF_firm:Firm CondF:=fun F G w w' row c hs h=>h.same hs
theorem CondF.open{F:Nat→Prop}{w:World}{row:List Value}{c:Cond}(h:CondF F w row c):
  ∃ ao n cap,row= .int .i64 c.kind:: .slice ao n cap::(opdC c.left++opdC c.right)∧SlF F w 14 CondF ao n cap c.subs:=by
 cases h with
 |mk k subs l r ao n cap b off rows h1 h2 h3 h4 h5 h6=>
  refine⟨ao,n,cap,rfl,h1,h2,h3,h4,fun i hi=>?_⟩
  obtain⟨e,hF,hlt,hr⟩:=h5 i hi
  exact⟨b,off,rows i,e,hF,hlt,hr,h6 i hi⟩
theorem CondF.make{F:Nat→Prop}{w:World}{ao:Option Addr}{n cap:Nat}{subs:List Cond}(k:Int)(l r:Opd)(h:SlF F w 14 CondF ao n cap subs):CondF F w (.int .i64 k:: .slice ao n cap::(opdC l++opdC r)) (.mk k subs l r):=by
 obtain⟨h1,h2,h3,h4,h5⟩:=h
 classical
 rcases Nat.eq_zero_or_pos subs.length with h0|hpos
 ·exact .mk k subs l r ao n cap 0 0 (fun _=>[]) h1 h2 h3 h4 (fun i hi=>by omega) (fun i hi=>by omega)
 ·obtain⟨b,off,row0,e,_⟩:=h5 0 hpos
  have key: ∀ i,∃ row,∀ h:i<subs.length,F b∧b<w.heap.size∧RowAt w b (off+i*14) 14 row∧CondF F w row subs[i]:=fun i=>by
   by_cases hi:i<subs.length
   ·obtain⟨b',off',row,e',hF,hlt,hr,hc⟩:=h5 i hi
    rw[e]at e'
    injection e' with e';injection e' with e1 e2
    subst e1 e2
    exact⟨row,fun _=>⟨hF,hlt,hr,hc⟩⟩
   ·exact⟨[],fun h=>absurd h hi⟩
  exact .mk k subs l r ao n cap b off (fun i=>Classical.choose (key i)) h1 h2 h3 h4
   (fun i hi=>⟨e,(Classical.choose_spec (key i) hi).1,(Classical.choose_spec (key i) hi).2.1,(Classical.choose_spec (key i) hi).2.2.1⟩)
   (fun i hi=>(Classical.choose_spec (key i) hi).2.2.2)
theorem condF_len{F:Nat→Prop}{w:World}{row:List Value}{c:Cond}(h:CondF F w row c):row.length=14:=by
 obtain⟨ao,n,cap,rfl,_⟩:=h.open
 rfl
theorem condF_zero(F:Nat→Prop)(w:World)(k:Int)(l r:Opd):CondF F w (.int .i64 k:: .slice none 0 0::(opdC l++opdC r)) (.mk k [] l r):=CondF.make k l r SlF.nil
end Go.Proofs.Ytpnhkkjjdcjmgaa
