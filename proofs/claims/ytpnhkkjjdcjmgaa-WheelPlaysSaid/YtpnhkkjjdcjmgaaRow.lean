/-
  Slices made of several cells.
-/
import Derived.Test.YtpnhkkjjdcjmgaaMmR
namespace Go.Proofs.Ytpnhkkjjdcjmgaa
open Go.RowKit
set_option linter.unusedVariables false
set_option linter.unusedSimpArgs false
theorem fill_cells: ∀ (vs:List Value) (k:Nat) (init:List Value),(∀ v∈vs,v.cells= #[v])→k+vs.length≤init.length→Instr.fill (fun i=>some (i*1,1)) init.toArray ((vs.zipIdx k).map fun x=>(x.2,x.1))=some (init.take k++vs++init.drop (k+vs.length)).toArray
 |[],k,init,_,_=>by simp[Instr.fill]
 |v::r,k,init,hc,h=>by
  simp only[List.length_cons]at h
  have hv:=hc v (List.mem_cons_self ..)
  have hz:(#[v]:Array Value).zipIdx= #[(v,0)]:=rfl
  have e3:(v.cells.zipIdx.foldl (fun cs (x:Value×Nat)=>cs.setIfInBounds (k+x.2) x.1) init.toArray)=(init.set k v).toArray:=by
   rw[hv,hz]
   simp
  rw[List.zipIdx_cons,List.map_cons]
  simp only[Instr.fill,Nat.mul_one]
  rw[if_neg (by rw[hv];simp;omega),e3]
  have ih:=fill_cells r (k+1) (init.set k v) (fun x hx=>hc x (List.mem_cons_of_mem _ hx)) (by simp;omega)
  simp only[Nat.mul_one]at ih
  rw[ih]
  have hk:k<init.length:=by omega
  have e1:(init.set k v).take (k+1)=init.take k++[v]:=by
   rw[List.set_eq_take_append_cons_drop,if_pos hk,List.take_append]
   simp[Nat.min_eq_left (Nat.le_of_lt hk),List.take_take]
  have e2:(init.set k v).drop (k+1+r.length)=init.drop (k+(r.length+1)):=by
   rw[List.drop_set,if_pos (by omega)]
   congr 1
   omega
  rw[e1,e2]
  simp
section
variable {P:Program} {o:Oper} {a:Act} {Q:Exit→Act→World→Prop} {K:Act→World→Prop}
variable {At:PS→World→Prop} {b:Nat} {u w:World} {s:PS} {L:List Ent}
theorem op_buildK(M:Mem At b u w s L){t e:Nat}(hT:RowT P t e 1)(ys:List Operand)(ho:o.op= .buildSlice t ys.length (ys.zipIdx.map fun x=>(x.2,x.1)).toArray)(vs:List Value)(hy:ys.map a.eval=vs)(h1: ∀ v∈vs,v.cells= #[v])(hpos:0<vs.length)(hsm:vs.length≤100)
  (h: ∀ q w',Mem At b u w' s (own q vs e::L)→K (a.put o.dst (.slice (some ⟨q,0,none⟩) vs.length vs.length)) w'):o.wp P a w K Q:=by
 obtain⟨hu,ie,z,hie,hz,hsz,hzs,hp,hsmall, -, -⟩:=hT.open
 have hyl:ys.length=vs.length:=by rw[←hy,List.length_map]
 have hf:Instr.fill (fun i=>some (i*ie.size,ie.size)) ((Array.range (ys.length*ie.size)).map (z.cells[· % z.cells.size]!)) (((ys.zipIdx.map fun x=>(x.2,x.1)).toArray).map fun(i,x)=>(i,a.eval x)).toList=some vs.toArray:=by
  rw[hsz]
  have e1:(((ys.zipIdx.map fun x=>(x.2,x.1)).toArray).map fun((i,x):Nat×Operand)=>(i,a.eval x)).toList=(vs.zipIdx.map fun x=>(x.2,x.1)):=by
   rw[←hy]
   simp[List.zipIdx_map,List.map_map,Function.comp_def]
  rw[e1]
  have:=fill_cells vs 0 ((Array.range (ys.length*1)).map (z.cells[· % z.cells.size]!)).toList h1 (by simp[hyl])
  rw[Array.toArray_toList]at this
  rw[this]
  congr 1
  rw[List.take_zero,List.nil_append,List.drop_eq_nil_of_le (by simp[hyl]),List.append_nil]
 have hlow: ∀ y,(own w.heap.size vs e).blk y→w.heap.size≤y∧y<(w.alloc (.cells vs.toArray e)).heap.size:=fun y hy=>by
  have e:w.heap.size=y:=by injection hy
  subst e
  simp
 have key:=h w.heap.size _ (M.push (Joins.below_alloc1 w (.cells vs.toArray e)) (own_firm _ _ _) hlow (fun G _=>heap_alloc_new w _))
 rw[←hyl]at key
 exact wp_buildSlice t e ys.length _ ho vs.toArray ie z hu hie hz (by rw[hsz];omega) (by rw[hsz];omega) hf key
end
section
variable {P:Program} {dst:Option Tmp} {oty:TypeId} {pos:String} {after:Array Edge} {g:Option (Nat×Bool)} {l:List Value} {ds:List Deferred} {Q:Exit→Act→World→Prop} {K:Act→World→Prop}
variable {At:PS→World→Prop} {b:Nat} {u w:World} {s:PS} {L:List Ent} {ty e:Nat} {y0 y1 y2:Operand} {v0 v1 v2:Value}
theorem cells_one1{v:Value}(h:v.oneCell' =true):v.cells= #[v]:=by cases v<;>first|rfl|(simp[Value.oneCell']at h)
theorem q_rowv1(M:Mem At b u w s L)[h0:EvI l y0 v0][c0:OneC v0][hT:RowI P ty e 1]{F:Nat→List Value}[hd: ∀ q,PutI l dst (.slice (some ⟨q,0,none⟩) 1 1) (F q)](h: ∀ q w',Mem At b u w' s (own q [v0] e::L)→K ⟨(F q).toArray,ds⟩ w'):OWP P ⟨dst,.buildSlice ty 1 #[(0,y0)],oty,pos,after,g⟩ ⟨l.toArray,ds⟩ w K Q:=
 owp_of (op_buildK M hT.row [y0] rfl [v0] (by simp[h0.ev]) (by simpa using cells_one1 c0.one) (by simp) (by simp) (fun q w' M' =>by simp only[List.length_cons,List.length_nil,Nat.zero_add];rw[(hd q).put];exact h q w' M'))
theorem q_rowv2(M:Mem At b u w s L)[h0:EvI l y0 v0][h1:EvI l y1 v1][c0:OneC v0][c1:OneC v1][hT:RowI P ty e 1]{F:Nat→List Value}[hd: ∀ q,PutI l dst (.slice (some ⟨q,0,none⟩) 2 2) (F q)](h: ∀ q w',Mem At b u w' s (own q [v0,v1] e::L)→K ⟨(F q).toArray,ds⟩ w'):OWP P ⟨dst,.buildSlice ty 2 #[(0,y0),(1,y1)],oty,pos,after,g⟩ ⟨l.toArray,ds⟩ w K Q:=
 owp_of (op_buildK M hT.row [y0,y1] rfl [v0,v1] (by simp[h0.ev,h1.ev]) (by simp[cells_one1 c0.one,cells_one1 c1.one]) (by simp) (by simp) (fun q w' M' =>by simp only[List.length_cons,List.length_nil,Nat.zero_add,Nat.reduceAdd];rw[(hd q).put];exact h q w' M'))
theorem q_rowv3(M:Mem At b u w s L)[h0:EvI l y0 v0][h1:EvI l y1 v1][h2:EvI l y2 v2][c0:OneC v0][c1:OneC v1][c2:OneC v2][hT:RowI P ty e 1]{F:Nat→List Value}[hd: ∀ q,PutI l dst (.slice (some ⟨q,0,none⟩) 3 3) (F q)](h: ∀ q w',Mem At b u w' s (own q [v0,v1,v2] e::L)→K ⟨(F q).toArray,ds⟩ w'):OWP P ⟨dst,.buildSlice ty 3 #[(0,y0),(1,y1),(2,y2)],oty,pos,after,g⟩ ⟨l.toArray,ds⟩ w K Q:=
 owp_of (op_buildK M hT.row [y0,y1,y2] rfl [v0,v1,v2] (by simp[h0.ev,h1.ev,h2.ev]) (by simp[cells_one1 c0.one,cells_one1 c1.one,cells_one1 c2.one]) (by simp) (by simp) (fun q w' M' =>by simp only[List.length_cons,List.length_nil,Nat.zero_add,Nat.reduceAdd];rw[(hd q).put];exact h q w' M'))
end
theorem Own.strs{z:Nat}{ss:List ByteArray}{t:TypeId}{w:World}(h:Own z (ss.map Value.string) t w)(hl:ss.length≤maxLen):SlF (fun _=>True) w 1 (plainF fun s:ByteArray=>[Value.string s]) (some ⟨z,0,none⟩) ss.length ss.length ss:=by
 refine⟨rfl,Nat.le_refl _,hl,fun h=>by simp at h,fun i hi=>⟨z,0,[.string ss[i]],rfl,trivial,h.lt,⟨rfl,fun j hj=>?_⟩,rfl⟩⟩
 have e:j=0:=by omega
 subst e
 rw[Nat.mul_one,Nat.add_zero,Nat.zero_add,h.cell]
 simp[List.getElem?_eq_getElem hi]
section
variable {P:Program} {dst:Option Tmp} {oty:TypeId} {pos:String} {after:Array Edge} {gu:Option (Nat×Bool)} {l:List Value} {ds:List Deferred} {Q:Exit→Act→World→Prop} {K:Act→World→Prop}
variable {At:PS→World→Prop} {b:Nat} {u w:World} {s:PS} {L:List Ent} {ty e n:Nat}
theorem Mem.k2{At:PS→World→Prop}{b:Nat}{u w:World}{s:PS}{L:List Ent}{e1 e2 x:Ent}(M:Mem At b u w s (e1::e2::x::L)):Mem At b u w s (e1::e2::L):=M.cut [e1,e2]
theorem Mem.swap2{At:PS→World→Prop}{b:Nat}{u w:World}{s:PS}{L:List Ent}{e1 e2 x:Ent}(M:Mem At b u w s (x::e1::e2::L)):Mem At b u w s (x::e2::e1::L):=M.perm ((List.Perm.swap e2 e1 L).cons x)
theorem Mem.turn3{At:PS→World→Prop}{b:Nat}{u w:World}{s:PS}{L:List Ent}{e1 e2 x:Ent}(M:Mem At b u w s (x::e1::e2::L)):Mem At b u w s (e1::e2::x::L):=M.perm (List.perm_middle (l₁:=[e1,e2])).symm
class SmI (n:Nat):Prop where
 le:n≤100
instance :SmI 1:=⟨by decide⟩
instance :SmI 2:=⟨by decide⟩
instance :SmI 3:=⟨by decide⟩
instance :SmI 4:=⟨by decide⟩
instance :SmI 5:=⟨by decide⟩
instance :SmI 6:=⟨by decide⟩
instance :SmI 7:=⟨by decide⟩
instance :SmI 8:=⟨by decide⟩
class RowsJ (l:List Value) (k:Nat) (xs:List (Nat×Operand)) (vs:outParam (List Value)):Prop where
 ev: ∃ ys:List Operand,(ys.zipIdx k).map (fun x=>(x.2,x.1))=xs∧ ∀ ds,ys.map (Act.eval ⟨l.toArray,ds⟩)=vs
 one: ∀ v∈vs,v.cells= #[v]
instance {l:List Value}{k:Nat}:RowsJ l k [] []:=⟨⟨[],rfl,fun _=>rfl⟩,fun v h=>by cases h⟩
instance {l:List Value}{k:Nat}{y:Operand}{v:Value}{xs:List (Nat×Operand)}{vs:List Value}[h:EvI l y v][c:OneC v][r:RowsJ l (k+1) xs vs]:RowsJ l k ((k,y)::xs) (v::vs):=
 ⟨r.ev.elim fun ys h' =>⟨y::ys,by rw[List.zipIdx_cons,List.map_cons,h'.1],fun ds=>by rw[List.map_cons,h.ev,h'.2]⟩,fun x hx=>by
  rcases List.mem_cons.1 hx with rfl|hx
  ·exact cells_one1 c.one
  ·exact r.one x hx⟩
theorem q_rows{x:Nat×Operand}{xs:List (Nat×Operand)}{v:Value}{vs:List Value}(M:Mem At b u w s L)[r:RowsJ l 0 (x::xs) (v::vs)][hn:LenI (v::vs) n][hT:RowI P ty e 1]{F:Nat→List Value}[hd: ∀ q,PutI l dst (.slice (some ⟨q,0,none⟩) n n) (F q)][hs:SmI n](h: ∀ q w',Mem At b u w' s (own q (v::vs) e::L)→K ⟨(F q).toArray,ds⟩ w'):OWP P ⟨dst,.buildSlice ty n (x::xs).toArray,oty,pos,after,gu⟩ ⟨l.toArray,ds⟩ w K Q:=by
 obtain⟨ys,h1,h2⟩:=r.ev
 have hl:=hn.len
 have hy:=h2 ds
 have hyl:ys.length=n:=by rw[←hl,←hy,List.length_map]
 refine owp_of (op_buildK M hT.row ys (by rw[h1,hyl]) (v::vs) hy r.one (by simp) (by rw[hl];exact hs.le) (fun q w' M' =>?_))
 rw[hl,(hd q).put]
 exact h q w' M'
end
end Go.Proofs.Ytpnhkkjjdcjmgaa
