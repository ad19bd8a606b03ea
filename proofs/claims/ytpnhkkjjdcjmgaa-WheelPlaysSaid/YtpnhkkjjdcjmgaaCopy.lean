/-
  A slice that came in, copied by an append to nil: for every program. Condition: its bytes stay within 2^47.
-/
import Derived.Test.YtpnhkkjjdcjmgaaRep
import Derived.Maps.AppendAt
import Derived.RegionTactic
import Derived.Deep.RegionLaw
namespace Go.Proofs.Ytpnhkkjjdcjmgaa
open Go.RowKit
set_option linter.unusedVariables false
set_option linter.unusedSimpArgs false
def OneCells{α:Type}(R:World→List Value→α→Prop):Prop:= ∀ w row x,R w row x→ ∀ u∈row,u.oneCell' =true
theorem flat_row{k:Nat}(rows:Nat→List Value)(hk: ∀ i,(rows i).length=k)(n:Nat):
  ((List.range n).flatMap rows).length=n*k∧ ∀ i j,i<n→j<k→((List.range n).flatMap rows)[i*k+j]?=(rows i)[j]?:=by
 induction n with
 |zero=>exact⟨by simp,fun i j h=>absurd h (Nat.not_lt_zero i)⟩
 |succ n ih=>
  obtain⟨h1,h2⟩:=ih
  rw[List.range_succ,List.flatMap_append]
  refine⟨by rw[List.length_append,h1,Nat.succ_mul];simp[hk],fun i j hi hj=>?_⟩
  by_cases e:i=n
  ·subst e
   rw[List.getElem?_append_right (by omega),h1]
   simp
  ·have hi' :i<n:=by omega
   have:i*k+j<n*k:=by
    have h3:(i+1)*k≤n*k:=Nat.mul_le_mul_right k (by omega)
    rw[Nat.add_mul]at h3;omega
   rw[List.getElem?_append_left (by omega)]
   exact h2 i j hi' hj
theorem run_copy_rows{α:Type}{P:Program}{t e:TypeId}{i:TypeInfo}{z:Value}{k bytes:Nat}(ht:P.underlying t=some (.slice e))(hi:P.info? e=some i)(hz:i.zero=some z)
  (hsize:i.size=k)(hby:i.bytes=bytes)(hzs:z.cells.size=k)(hk:0<k){R:World→List Value→α→Prop}(hR:Stays R)(h1:OneCells R)
  {w:World}{ao:Option Addr}{n cap:Nat}{xs:List α}(h:SlR w k R ao n cap xs)(hbytes:n*bytes≤140737488355328):
  ∃ ao' cap' w',(Builtin.append_ #[t,t] t #[.slice none 0 0,.slice ao n cap]).run P w= .ok (.slice ao' n cap') w' ∧SlR w' k R ao' n cap' xs∧Below w.heap.size w w' :=by
 obtain⟨hn,hcap,hmax,hnil,hrows⟩:=h
 rcases Nat.eq_zero_or_pos n with h0|hpos
 ·subst h0
  have hx:xs=[]:=List.eq_nil_of_length_eq_zero hn.symm
  subst hx
  refine⟨none,0,w,?_,⟨rfl,Nat.le_refl _,by unfold maxLen;omega,fun _=>rfl,fun i hi=>absurd hi (by simp)⟩,Below.refl _ _⟩
  cases ao with
  |none=>simp[Builtin.append_,run_underlying ht,sizeOf,typeInfo,hi,Builtin.lenOf,Builtin.firstCells]
  |some a=>simp[Builtin.append_,run_underlying ht,sizeOf,typeInfo,hi,Builtin.lenOf,Builtin.firstCells,storeCells,loadCells,loadCellsFrom]
 ·have key: ∀ i:Nat,∃ row:List Value,row.length=k∧(i<n→ ∃ b off,ao=some ⟨b,off,none⟩∧b<w.heap.size∧RowAt w b (off+i*k) k row∧ ∃ hi:i<xs.length,R w row xs[i]):=by
   intro i
   by_cases hi:i<n
   ·obtain⟨b,off,row,e,hb,hr,hx⟩:=hrows i (by omega)
    exact⟨row,hr.1,fun _=>⟨b,off,e,hb,hr,by omega,hx⟩⟩
   ·exact⟨List.replicate k undef,by simp,fun h=>absurd h hi⟩
  obtain⟨rows,hrw⟩: ∃ rows:Nat→List Value,∀ i,(rows i).length=k∧(i<n→ ∃ b off,ao=some ⟨b,off,none⟩∧b<w.heap.size∧RowAt w b (off+i*k) k (rows i)∧ ∃ hi:i<xs.length,R w (rows i) xs[i]):=
   ⟨fun i=>Classical.choose (key i),fun i=>Classical.choose_spec (key i)⟩
  obtain⟨hfl,hfi⟩:=flat_row rows (fun i=>(hrw i).1) n
  obtain⟨b,off,hao,hblt,_⟩:=(hrw 0).2 hpos
  subst hao
  have hcell: ∀ i j,i<n→j<k→w.cell? ⟨b,off+(i*k+j),none⟩=some ((rows i).getD j undef):=by
   intro i j hi hj
   obtain⟨b',off',e,_,hr,_⟩:=(hrw i).2 hi
   injection e with e;injection e with e1 e2;subst e1;subst e2
   have:=hr.2 j hj
   rwa[Nat.add_assoc]at this
  have hdm: ∀ m,m<n*k→ ∃ i j,i<n∧j<k∧m=i*k+j:=fun m hm=>⟨m / k,m % k,(Nat.div_lt_iff_lt_mul hk).2 hm,Nat.mod_lt _ hk,by rw[Nat.mul_comm];exact(Nat.div_add_mod m k).symm⟩
  have hrow1: ∀ i,i<n→ ∀ u∈rows i,u.oneCell' =true:=fun i hi u hu=>by
   obtain⟨_,_,_,_,_,_,hx⟩:=(hrw i).2 hi
   exact h1 _ _ _ hx u hu
  obtain⟨v',w',hrun,hown,hgrown,_,_⟩:=run_append_own_at (P:=P) w w.heap.size t t e i z k bytes ht hi hz hsize hby hzs hk (.slice none 0 0) 0 [] (World.ownsRow_nil w _ e k)
   ⟨b,off,none⟩ n cap ((List.range n).flatMap rows) hfl (fun m u hu=>by
    have hm:m<n*k:=by rw[←hfl];exact(List.getElem?_eq_some_iff.1 hu).1
    obtain⟨i,j,hi,hj,rfl⟩:=hdm m hm
    rw[hfi i j hi hj]at hu
    rw[Go.WideShapes.add_plain,hcell i j hi hj]
    simp[List.getD,hu])
   (fun u hu=>by
    obtain⟨i,hi,hu⟩:=List.mem_flatMap.1 hu
    exact hrow1 i (List.mem_range.1 hi) u hu)
   (by omega) (by rw[Nat.zero_add];exact hbytes) (Nat.le_refl _)
  rw[Nat.zero_add,List.nil_append]at hown
  have hbel:Below w.heap.size w w' :=(Below.refl _ _).grown hgrown (Nat.le_refl _) (fun g hg=>by simp[Value.ownBlock]at hg)
  rcases hown.2 with⟨_,h0⟩|⟨g,cap',cur,hv,hg,hh,hnc,hcm,hsz,htk⟩
  ·omega
  ·subst hv
   refine⟨_,_,_,hrun,⟨hn,hnc,hcm,by simp,fun i hi=>?_⟩,hbel⟩
   have hi' :i<n:=by omega
   obtain⟨_,_,_,_,_,hx',hx⟩:=(hrw i).2 hi'
   refine⟨g,0,rows i,rfl,(Array.getElem?_eq_some_iff.1 hh).1,⟨(hrw i).1,fun j hj=>?_⟩,hR _ _ _ _ hbel hx⟩
   have hm:i*k+j<n*k:=by
    have h3:(i+1)*k≤n*k:=Nat.mul_le_mul_right k (by omega)
    rw[Nat.add_mul]at h3;omega
   have h4:=hfi i j hi' hj
   rw[←htk,List.getElem?_take,if_pos hm]at h4
   have hjl:j<(rows i).length:=by rw[(hrw i).1];exact hj
   have e0:0+i*k+j=i*k+j:=by omega
   simp only[World.cell?,hh,e0]
   rw[List.getElem?_eq_getElem hjl]at h4
   simpa[List.getD,List.getElem?_eq_getElem hjl]using h4
theorem wp_append_run{P:Program}{w:World}{o:Oper}{a:Act}{K:Act→World→Prop}{Q:Exit→Act→World→Prop}{v y v' :Value}{w' :World}(s x:Operand)(t:TypeId)
  (ho:o.op= .call {callee:= .builtin .append,args:= #[s,x],argTypes:= #[t,t]})(hty:o.type=t)(hs:a.eval s=v)(hx:a.eval x=y)
  (hrun:(Builtin.append_ #[t,t] t #[v,y]).run P w= .ok v' w')(h:K (a.put o.dst v') w'):o.wp P a w K Q:=by
 unfold Oper.wp execOp
 simp only[ho,resolve,invoke,builtin,Sem.run_bind,Sem.run_pure,Result.andThen_ok,List.map_toArray,List.map_cons,List.map_nil,hs,hx,hty,hrun]
 exact h
theorem wpList_append_run{P:Program}{w:World}{ops:Array Oper}{rest:List Oper}{o:Oper}{a:Act}{Q:Exit→Act→World→Prop}{v y v' :Value}{w' :World}(hgd:o.guard=none)(s x:Operand)(t:TypeId)
  (ho:o.op= .call {callee:= .builtin .append,args:= #[s,x],argTypes:= #[t,t]})(hty:o.type=t)(hs:a.eval s=v)(hx:a.eval x=y)
  (hrun:(Builtin.append_ #[t,t] t #[v,y]).run P w= .ok v' w')(h:wpList P ops Q rest (a.put o.dst v') w'):wpList P ops Q (o::rest) a w:=
 wpList_plain hgd fun _ hK=>wp_append_run s x t ho hty hs hx hrun (hK _ _ h)
theorem step_append_run{P:Program}{w:World}{ops:Array Oper}{o:Oper}{a:Act}{K:Act→World→Prop}{Q:Exit→Act→World→Prop}{E:Prop}{v y v' :Value}{w' :World}(hgd:o.guard=none)(s x:Operand)(t:TypeId)
  (ho:o.op= .call {callee:= .builtin .append,args:= #[s,x],argTypes:= #[t,t]})(hty:o.type=t)(hs:a.eval s=v)(hx:a.eval x=y)
  (hrun:(Builtin.append_ #[t,t] t #[v,y]).run P w= .ok v' w')(h:K (a.put o.dst v') w'):
  if Region.wanted o (yielded ops a.tmps)=true then Oper.wp P o a w K Q else E:=by
 have hw:Region.wanted o (yielded ops a.tmps)=true:=by simp[Region.wanted,hgd]
 rw[if_pos hw]
 exact wp_append_run s x t ho hty hs hx hrun h
end Go.Proofs.Ytpnhkkjjdcjmgaa
