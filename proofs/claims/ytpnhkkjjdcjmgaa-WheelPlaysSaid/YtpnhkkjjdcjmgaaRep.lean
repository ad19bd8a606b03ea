/-
  Slices of structs in memory, as lists of rows of cells: for every program. A slice that is only read.
-/
import Derived.WalkKit
import Derived.ProofKit
import Derived.SizedLaws
import Derived.Lib.SmallJoins
import Derived.Deep.Slices
namespace Go.Proofs.Ytpnhkkjjdcjmgaa
open Go.RowKit Go.ChangeShapes Go.WideShapes Go.Deep
theorem below_step{a b c:World}(h:Below a.heap.size a b)(k:Below b.heap.size b c):Below a.heap.size a c:=h.trans (k.mono h.size)
theorem bcell{W w1:World}(hb:Below W.heap.size W w1):(∀ b o,b<W.heap.size→w1.cell? ⟨b,o,none⟩=W.cell? ⟨b,o,none⟩)∧(∀ b o,b<W.heap.size→w1.frozen? ⟨b,o,none⟩=W.frozen? ⟨b,o,none⟩):=
 ⟨fun b o h=>hb.cell (p:=⟨b,o,none⟩) h,fun b o h=>hb.frozen (p:=⟨b,o,none⟩) h⟩
theorem ret_int{k:IntKind}{a b:Int}(h:a=b):Ending.returned (.int k a)= .returned (.int k b):=by rw[h]
theorem ret_bool{a b:Bool}(h:a=b):Ending.returned (.bool a)= .returned (.bool b):=by rw[h]
theorem ret_two{a b c d:Value}(h:a=c)(k:b=d):Ending.returned (.tuple #[a,b])= .returned (.tuple #[c,d]):=by rw[h,k]
theorem ret_bi{x y:Bool}{k:IntKind}{a b:Int}(h:x=y)(h' :a=b):Ending.returned (.tuple #[.bool x,.int k a])= .returned (.tuple #[.bool y,.int k b]):=by rw[h,h']
theorem ret_ii{k k' :IntKind}{a b c d:Int}(h:a=c)(h' :b=d):Ending.returned (.tuple #[.int k a,.int k' b])= .returned (.tuple #[.int k c,.int k' d]):=by rw[h,h']
def RowAt(w:World)(b o k:Nat)(row:List Value):Prop:=row.length=k∧ ∀ j,j<k→w.cell? ⟨b,o+j,none⟩=some (row.getD j undef)
def SlR{α:Type}(w:World)(k:Nat)(R:World→List Value→α→Prop)(ao:Option Addr)(n cap:Nat)(xs:List α):Prop:=
 n=xs.length∧n≤cap∧cap≤maxLen∧(ao=none→cap=0)∧
 ∀ i (h:i<xs.length),∃ b off row,ao=some ⟨b,off,none⟩∧b<w.heap.size∧RowAt w b (off+i*k) k row∧R w row xs[i]
def Stays{α:Type}(R:World→List Value→α→Prop):Prop:= ∀ w w' row x,Below w.heap.size w w' →R w row x→R w' row x
theorem RowAt.mono{w w' :World}{b o k:Nat}{row:List Value}(h:RowAt w b o k row)(hb:Below w.heap.size w w')(hlt:b<w.heap.size):RowAt w' b o k row:=
 ⟨h.1,fun j hj=>(hb.cell (p:=⟨b,o+j,none⟩) hlt).trans (h.2 j hj)⟩
theorem SlR.mono{α:Type}{w w' :World}{k:Nat}{R:World→List Value→α→Prop}{ao:Option Addr}{n cap:Nat}{xs:List α}(h:SlR w k R ao n cap xs)(hR:Stays R)(hb:Below w.heap.size w w'):SlR w' k R ao n cap xs:=by
 obtain⟨h1,h2,h3,h5,h4⟩:=h
 refine⟨h1,h2,h3,h5,fun i hi=>?_⟩
 obtain⟨b,off,row,e,hlt,hr,hx⟩:=h4 i hi
 exact⟨b,off,row,e,Nat.lt_of_lt_of_le hlt hb.size,hr.mono hb hlt,hR _ _ _ _ hb hx⟩
def plain{α:Type}(c:α→List Value):World→List Value→α→Prop:=fun _ row x=>row=c x
theorem plain_stays{α:Type}(c:α→List Value):Stays (plain c):=fun _ _ _ _ _ h=>h
theorem SlR.len{α:Type}{w:World}{k:Nat}{R:World→List Value→α→Prop}{ao:Option Addr}{n cap:Nat}{xs:List α}(h:SlR w k R ao n cap xs):n=xs.length:=h.1
theorem SlR.le{α:Type}{w:World}{k:Nat}{R:World→List Value→α→Prop}{ao:Option Addr}{n cap:Nat}{xs:List α}(h:SlR w k R ao n cap xs):n≤cap∧cap≤9223372036854775807:=⟨h.2.1,h.2.2.1⟩
def SizeIs(P:Program)(e k:Nat):Prop:= ∀ w,(sizeOf e).run P w= .ok k w
theorem SlR.index{α:Type}{w:World}{k:Nat}{R:World→List Value→α→Prop}{ao:Option Addr}{n cap:Nat}{xs:List α}(h:SlR w k R ao n cap xs){P:Program}{t e:TypeId}(ht:P.underlying t=some (.slice e))(hs:SizeIs P e k){i:Nat}(hi:i<xs.length):
  ∃ b off row,(∀ wx,(Instr.indexAt t (.slice ao n cap) (.int .i64 i)).run P wx= .ok (.pointer (some ⟨b,off+i*k,none⟩)) wx)∧b<w.heap.size∧RowAt w b (off+i*k) k row∧R w row xs[i]:=by
 obtain⟨h1,h2,h3,_,h4⟩:=h
 obtain⟨b,off,row,rfl,hlt,hr,hx⟩:=h4 i hi
 refine⟨b,off,row,fun wx=>?_,hlt,hr,hx⟩
 have hin:(i:Int)<n:=by omega
 have hsw:=hs wx
 simp[Instr.indexAt,run_underlying ht,asIntOf,hsw,Addr.add]
 rw[if_pos (by omega)]
 by_cases e:i*k=0
 ·rw[if_pos e,e];simp
 ·rw[if_neg e]
theorem SlR.index_cut{α:Type}{w:World}{k:Nat}{R:World→List Value→α→Prop}{ao:Option Addr}{n cap:Nat}{xs:List α}(h:SlR w k R ao n cap xs){P:Program}{t e:TypeId}(ht:P.underlying t=some (.slice e))(hs:SizeIs P e k){i m:Nat}(hi:i<m)(hm:m≤xs.length):
  ∃ b off row,(∀ wx,(Instr.indexAt t (.slice ao m cap) (.int .i64 i)).run P wx= .ok (.pointer (some ⟨b,off+i*k,none⟩)) wx)∧b<w.heap.size∧RowAt w b (off+i*k) k row∧R w row (xs[i]'(by omega)):=by
 obtain⟨h1,h2,h3,h5,h4⟩:=h
 have h' :SlR w k R ao m cap (xs.take m):=⟨by simp;omega,by omega,h3,h5,fun j hj=>by
  obtain⟨b,off,row,r⟩:=h4 j (by simp at hj;omega)
  exact⟨b,off,row,by simpa using r⟩⟩
 obtain⟨b,off,row,q1,q2,q3,q4⟩:=h'.index ht hs (i:=i) (by simp;omega)
 exact⟨b,off,row,q1,q2,q3,by simpa using q4⟩
theorem RowAt.two{w:World}{b o:Nat}{x y:Value}(h:RowAt w b o 2 [x,y]):w.cell? ⟨b,o,none⟩=some x∧w.cell? ⟨b,o+1,none⟩=some y:=
 ⟨h.2 0 (by omega),h.2 1 (by omega)⟩
theorem RowAt.three{w:World}{b o:Nat}{x y z:Value}(h:RowAt w b o 3 [x,y,z]):w.cell? ⟨b,o,none⟩=some x∧w.cell? ⟨b,o+1,none⟩=some y∧w.cell? ⟨b,o+1+1,none⟩=some z:=
 ⟨h.2 0 (by omega),h.2 1 (by omega),h.2 2 (by omega)⟩
theorem block_of_cell{w:World}{a:Addr}{v:Value}(h:w.cell? a=some v):a.block<w.heap.size:=World.block_lt_of_cell? w a h
theorem open_rows{α H:Type}{enc:TypeId×Value→H}{P:Program}{w:World}{t e k:Nat}{v:Value}{d:DataW H}{ps:List MemPlace}{R:World→List Value→α→Prop}
  (ht:P.underlying t=some (.slice e))(hk:P.cellsOf e=k)(hk0:0<k)(h: ∃ fuel,DataW.trod enc P w 0 (fun _=>true) true fuel t [v]=some (d,ps))(hlt: ∀ p∈ps,p.block<w.heap.size)
  (hR: ∀ (n:Nat) (row:List Value) (y:DataW H×List MemPlace),row.length=k→DataW.trod enc P w 0 (fun _=>true) true n e row=some y→(∀ p∈y.2,p.block<w.heap.size)→ ∃ x,R w row x):
  ∃ (ao:Option Addr) (n cap:Nat) (xs:List α),v= .slice ao n cap∧SlR w k R ao n cap xs:=by
 obtain⟨fuel,h⟩:=h
 rcases open_slice ht h with⟨hcs,hx⟩|⟨a,len,cap,m,n,D,Pl,hcs,_,hl,hm,hmm,hx,hel⟩
 ·simp only[List.cons.injEq,and_true]at hcs
  exact⟨none,0,0,[],hcs,by simp,by simp,by simp,by simp,fun i hi=>absurd hi (by simp)⟩
 ·simp only[List.cons.injEq,and_true]at hcs
  simp only[if_true]at hmm
  subst hmm
  simp only[Prod.mk.injEq]at hx
  obtain⟨_,rfl⟩:=hx
  have key: ∀ i,i<len→ ∃ x:α,∃ b off row,a=⟨b,off,none⟩∧b<w.heap.size∧RowAt w b (off+i*k) k row∧R w row x:=by
   intro i hi
   obtain⟨cs',h1,h2⟩:=hel i (by omega)
   rw[hk]at h1
   obtain⟨_,hlen,hc⟩:=World.cells?_some h1
   obtain⟨x,hx⟩:=hR n cs' (D i,Pl i) hlen h2 (fun p hp=>hlt p (by simp only[List.mem_append,List.mem_flatMap,List.mem_range];exact Or.inr ⟨i,by omega,hp⟩))
   obtain⟨cs0,h10,_⟩:=hel 0 (by omega)
   rw[hk]at h10
   obtain⟨_,hlen0,hc0⟩:=World.cells?_some h10
   have hc00:=hc0 0 hk0
   rw[List.getElem?_eq_getElem (by omega)]at hc00
   obtain⟨b,off,spot⟩:=a
   have hspot:spot=none:=by simpa[Addr.add]using World.cell?_spot hc00
   subst hspot
   refine⟨x,b,off,cs',rfl,by simpa[Addr.add]using block_of_cell hc00,⟨hlen,fun j hj=>?_⟩,hx⟩
   have:=hc j hj
   rw[add_add,Go.WideShapes.add_plain]at this
   rw[Nat.add_assoc,this,List.getElem?_eq_getElem (by omega)]
   simp[List.getD,List.getElem?_eq_getElem (show j<cs'.length by omega)]
  have hch: ∃ xs:List α,xs.length=len∧ ∀ i (h:i<xs.length),∃ b off row,a=⟨b,off,none⟩∧b<w.heap.size∧RowAt w b (off+i*k) k row∧R w row xs[i]:=by
   classical
   refine⟨(List.range len).attach.map (fun i=>Classical.choose (key i.1 (List.mem_range.1 i.2))),by simp,fun i hi=>?_⟩
   have hi' :i<len:=by simpa using hi
   have:=Classical.choose_spec (key i hi')
   simpa using this
  obtain⟨xs,hxl,hxs⟩:=hch
  refine⟨some a,len,_,xs,hcs,hxl.symm,hl,hm,by simp,fun i hi=>?_⟩
  obtain⟨b,off,row,e,r⟩:=hxs i hi
  exact⟨b,off,row,by rw[e],r⟩
end Go.Proofs.Ytpnhkkjjdcjmgaa
