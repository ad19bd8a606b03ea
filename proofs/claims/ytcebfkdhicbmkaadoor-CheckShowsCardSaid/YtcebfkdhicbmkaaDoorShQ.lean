/-
  Slices made of several cells; a writer of tokens in own memory.
-/
import Derived.Test.YtcebfkdhicbmkaaDoorShP
import Derived.Test.YtcebfkdhicbmkaaDoorMmQ
namespace Go.Proofs.YtcebfkdhicbmkaaDoor
open Go.RowKit
set_option linter.unusedVariables false
set_option linter.unusedSimpArgs false
theorem fill_cells: ∀ (vs:List Value) (k:Nat) (init:List Value),(∀ v∈vs,v.cells= #[v])→k+vs.length≤init.length→Instr.fill (fun i=>some (i*1,1)) init.toArray ((vs.zipIdx k).map fun x=>(x.2,x.1))=some (init.take k++vs++init.drop (k+vs.length)).toArray
 |[],k,init,_,_=>by simp[Instr.fill]
 |v::r,k,init,hc,h=>by
  simp only[List.length_cons]at h
  have hv:=hc v (List.mem_cons_self ..)
  have hz:(#[v]:Array Value).zipIdx= #[(v,0)]:=rfl
  have e3:(v.cells.zipIdx.foldl (fun cs (x:Value×Nat)=>cs.setIfInBounds (k+x.2) x.1) init.toArray)=(init.set k v).toArray:=by
   rw[hv,hz]
   simp
  rw[List.zipIdx_cons,List.map_cons]
  simp only[Instr.fill,Nat.mul_one]
  rw[if_neg (by rw[hv];simp;omega),e3]
  have ih:=fill_cells r (k+1) (init.set k v) (fun x hx=>hc x (List.mem_cons_of_mem _ hx)) (by simp;omega)
  simp only[Nat.mul_one]at ih
  rw[ih]
  have hk:k<init.length:=by omega
  have e1:(init.set k v).take (k+1)=init.take k++[v]:=by
   rw[List.set_eq_take_append_cons_drop,if_pos hk,List.take_append]
   simp[Nat.min_eq_left (Nat.le_of_lt hk),List.take_take]
  have e2:(init.set k v).drop (k+1+r.length)=init.drop (k+(r.length+1)):=by
   rw[List.drop_set,if_pos (by omega)]
   congr 1
   omega
  rw[e1,e2]
  simp
section
variable {P:Program} {o:Oper} {a:Act} {Q:Exit→Act→World→Prop} {K:Act→World→Prop}
variable {At:PS→World→Prop} {b:Nat} {u w:World} {s:PS} {L:List Ent}
theorem op_buildK(M:Mem At b u w s L){t e:Nat}(hT:RowT P t e 1)(ys:List Operand)(ho:o.op= .buildSlice t ys.length (ys.zipIdx.map fun x=>(x.2,x.1)).toArray)(vs:List Value)(hy:ys.map a.eval=vs)(h1: ∀ v∈vs,v.cells= #[v])(hpos:0<vs.length)(hsm:vs.length≤100)
  (h: ∀ q w',Mem At b u w' s (own q vs e::L)→K (a.put o.dst (.slice (some ⟨q,0,none⟩) vs.length vs.length)) w'):o.wp P a w K Q:=by
 obtain⟨hu,ie,z,hie,hz,hsz,hzs,hp,hsmall, -, -⟩:=hT.open
 have hyl:ys.length=vs.length:=by rw[←hy,List.length_map]
 have hf:Instr.fill (fun i=>some (i*ie.size,ie.size)) ((Array.range (ys.length*ie.size)).map (z.cells[· % z.cells.size]!)) (((ys.zipIdx.map fun x=>(x.2,x.1)).toArray).map fun(i,x)=>(i,a.eval x)).toList=some vs.toArray:=by
  rw[hsz]
  have e1:(((ys.zipIdx.map fun x=>(x.2,x.1)).toArray).map fun((i,x):Nat×Operand)=>(i,a.eval x)).toList=(vs.zipIdx.map fun x=>(x.2,x.1)):=by
   rw[←hy]
   simp[List.zipIdx_map,List.map_map,Function.comp_def]
  rw[e1]
  have:=fill_cells vs 0 ((Array.range (ys.length*1)).map (z.cells[· % z.cells.size]!)).toList h1 (by simp[hyl])
  rw[Array.toArray_toList]at this
  rw[this]
  congr 1
  rw[List.take_zero,List.nil_append,List.drop_eq_nil_of_le (by simp[hyl]),List.append_nil]
 have hlow: ∀ y,(own w.heap.size vs e).blk=some y→w.heap.size≤y∧y<(w.alloc (.cells vs.toArray e)).heap.size:=fun y hy=>by
  have e:w.heap.size=y:=by injection hy
  subst e
  simp
 have key:=h w.heap.size _ (M.push (Joins.below_alloc1 w (.cells vs.toArray e)) (own_firm _ _ _) hlow (fun G _=>heap_alloc_new w _))
 rw[←hyl]at key
 exact wp_buildSlice t e ys.length _ ho vs.toArray ie z hu hie hz (by rw[hsz];omega) (by rw[hsz];omega) hf key
end
section
variable {P:Program} {dst:Option Tmp} {oty:TypeId} {pos:String} {after:Array Edge} {g:Option (Nat×Bool)} {l:List Value} {ds:List Deferred} {Q:Exit→Act→World→Prop} {K:Act→World→Prop}
variable {At:PS→World→Prop} {b:Nat} {u w:World} {s:PS} {L:List Ent} {ty e:Nat} {y0 y1 y2:Operand} {v0 v1 v2:Value}
theorem cells_one1{v:Value}(h:v.oneCell' =true):v.cells= #[v]:=by cases v<;>first|rfl|(simp[Value.oneCell']at h)
theorem q_rowv1(M:Mem At b u w s L)[h0:EvI l y0 v0][c0:OneC v0][hT:RowI P ty e 1]{F:Nat→List Value}[hd: ∀ q,PutI l dst (.slice (some ⟨q,0,none⟩) 1 1) (F q)](h: ∀ q w',Mem At b u w' s (own q [v0] e::L)→K ⟨(F q).toArray,ds⟩ w'):OWP P ⟨dst,.buildSlice ty 1 #[(0,y0)],oty,pos,after,g⟩ ⟨l.toArray,ds⟩ w K Q:=
 owp_of (op_buildK M hT.row [y0] rfl [v0] (by simp[h0.ev]) (by simpa using cells_one1 c0.one) (by simp) (by simp) (fun q w' M' =>by simp only[List.length_cons,List.length_nil,Nat.zero_add];rw[(hd q).put];exact h q w' M'))
theorem q_rowv2(M:Mem At b u w s L)[h0:EvI l y0 v0][h1:EvI l y1 v1][c0:OneC v0][c1:OneC v1][hT:RowI P ty e 1]{F:Nat→List Value}[hd: ∀ q,PutI l dst (.slice (some ⟨q,0,none⟩) 2 2) (F q)](h: ∀ q w',Mem At b u w' s (own q [v0,v1] e::L)→K ⟨(F q).toArray,ds⟩ w'):OWP P ⟨dst,.buildSlice ty 2 #[(0,y0),(1,y1)],oty,pos,after,g⟩ ⟨l.toArray,ds⟩ w K Q:=
 owp_of (op_buildK M hT.row [y0,y1] rfl [v0,v1] (by simp[h0.ev,h1.ev]) (by simp[cells_one1 c0.one,cells_one1 c1.one]) (by simp) (by simp) (fun q w' M' =>by simp only[List.length_cons,List.length_nil,Nat.zero_add,Nat.reduceAdd];rw[(hd q).put];exact h q w' M'))
theorem q_rowv3(M:Mem At b u w s L)[h0:EvI l y0 v0][h1:EvI l y1 v1][h2:EvI l y2 v2][c0:OneC v0][c1:OneC v1][c2:OneC v2][hT:RowI P ty e 1]{F:Nat→List Value}[hd: ∀ q,PutI l dst (.slice (some ⟨q,0,none⟩) 3 3) (F q)](h: ∀ q w',Mem At b u w' s (own q [v0,v1,v2] e::L)→K ⟨(F q).toArray,ds⟩ w'):OWP P ⟨dst,.buildSlice ty 3 #[(0,y0),(1,y1),(2,y2)],oty,pos,after,g⟩ ⟨l.toArray,ds⟩ w K Q:=
 owp_of (op_buildK M hT.row [y0,y1,y2] rfl [v0,v1,v2] (by simp[h0.ev,h1.ev,h2.ev]) (by simp[cells_one1 c0.one,cells_one1 c1.one,cells_one1 c2.one]) (by simp) (by simp) (fun q w' M' =>by simp only[List.length_cons,List.length_nil,Nat.zero_add,Nat.reduceAdd];rw[(hd q).put];exact h q w' M'))
end
theorem Own.strs{z:Nat}{ss:List ByteArray}{t:TypeId}{w:World}(h:Own z (ss.map Value.string) t w)(hl:ss.length≤maxLen):SlF (fun _=>True) w 1 (plainF fun s:ByteArray=>[Value.string s]) (some ⟨z,0,none⟩) ss.length ss.length ss:=by
 refine⟨rfl,Nat.le_refl _,hl,fun h=>by simp at h,fun i hi=>⟨z,0,[.string ss[i]],rfl,trivial,h.lt,⟨rfl,fun j hj=>?_⟩,rfl⟩⟩
 have e:j=0:=by omega
 subst e
 rw[Nat.mul_one,Nat.add_zero,Nat.zero_add,h.cell]
 simp[List.getElem?_eq_getElem hi]
end Go.Proofs.YtcebfkdhicbmkaaDoor
