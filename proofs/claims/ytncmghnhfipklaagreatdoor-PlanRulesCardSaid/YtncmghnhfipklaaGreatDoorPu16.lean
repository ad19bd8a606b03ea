/-
  Slices made of several cells.
-/
import Derived.Test.YtncmghnhfipklaaGreatDoorPu15
import Derived.Test.YtncmghnhfipklaaGreatDoorPu05
import Derived.Test.YtncmghnhfipklaaGreatDoorPu14
namespace Go.Proofs.YtncmghnhfipklaaGreatDoor
open Go.RowKit
set_option linter.unusedVariables false
set_option linter.unusedSimpArgs false
theorem fill_cells: ∀ (vs:List Value) (k:Nat) (init:List Value),(∀ v∈vs,v.cells= #[v])→k+vs.length≤init.length→Instr.fill (fun i=>some (i*1,1)) init.toArray ((vs.zipIdx k).map fun x=>(x.2,x.1))=some (init.take k++vs++init.drop (k+vs.length)).toArray
 |[],k,init,_,_=>by simp[Instr.fill]
 |v::r,k,init,hc,h=>by
  simp only[List.length_cons]at h
  have hv:=hc v (List.mem_cons_self ..)
  have hz:(#[v]:Array Value).zipIdx= #[(v,0)]:=rfl
  have e3:(v.cells.zipIdx.foldl (fun cs (x:Value×Nat)=>cs.setIfInBounds (k+x.2) x.1) init.toArray)=(init.set k v).toArray:=by
   rw[hv,hz]
   simp
  rw[List.zipIdx_cons,List.map_cons]
  simp only[Instr.fill,Nat.mul_one]
  rw[if_neg (by rw[hv];simp;omega),e3]
  have ih:=fill_cells r (k+1) (init.set k v) (fun x hx=>hc x (List.mem_cons_of_mem _ hx)) (by simp;omega)
  simp only[Nat.mul_one]at ih
  rw[ih]
  have hk:k<init.length:=by omega
  have e1:(init.set k v).take (k+1)=init.take k++[v]:=by
   rw[List.set_eq_take_append_cons_drop,if_pos hk,List.take_append]
   simp[Nat.min_eq_left (Nat.le_of_lt hk),List.take_take]
  have e2:(init.set k v).drop (k+1+r.length)=init.drop (k+(r.length+1)):=by
   rw[List.drop_set,if_pos (by omega)]
   congr 1
   omega
  rw[e1,e2]
  simp
section
variable {P:Program} {o:Oper} {a:Act} {Q:Exit→Act→World→Prop} {K:Act→World→Prop}
variable {At:PS→World→Prop} {b:Nat} {u w:World} {s:PS} {L:List Ent}
theorem op_buildK(M:Mem At b u w s L){t e:Nat}(hT:RowT P t e 1)(ys:List Operand)(ho:o.op= .buildSlice t ys.length (ys.zipIdx.map fun x=>(x.2,x.1)).toArray)(vs:List Value)(hy:ys.map a.eval=vs)(h1: ∀ v∈vs,v.cells= #[v])(hpos:0<vs.length)(hsm:vs.length≤100)
  (h: ∀ q w',Mem At b u w' s (own q vs e::L)→K (a.put o.dst (.slice (some ⟨q,0,none⟩) vs.length vs.length)) w'):o.wp P a w K Q:=by
 obtain⟨hu,ie,z,hie,hz,hsz,hzs,hp,hsmall, -, -⟩:=hT.open
 have hyl:ys.length=vs.length:=by rw[←hy,List.length_map]
 have hf:Instr.fill (fun i=>some (i*ie.size,ie.size)) ((Array.range (ys.length*ie.size)).map (z.cells[· % z.cells.size]!)) (((ys.zipIdx.map fun x=>(x.2,x.1)).toArray).map fun(i,x)=>(i,a.eval x)).toList=some vs.toArray:=by
  rw[hsz]
  have e1:(((ys.zipIdx.map fun x=>(x.2,x.1)).toArray).map fun((i,x):Nat×Operand)=>(i,a.eval x)).toList=(vs.zipIdx.map fun x=>(x.2,x.1)):=by
   rw[←hy]
   simp[List.zipIdx_map,List.map_map,Function.comp_def]
  rw[e1]
  have:=fill_cells vs 0 ((Array.range (ys.length*1)).map (z.cells[· % z.cells.size]!)).toList h1 (by simp[hyl])
  rw[Array.toArray_toList]at this
  rw[this]
  congr 1
  rw[List.take_zero,List.nil_append,List.drop_eq_nil_of_le (by simp[hyl]),List.append_nil]
 have hlow: ∀ y,(own w.heap.size vs e).blk y→w.heap.size≤y∧y<(w.alloc (.cells vs.toArray e)).heap.size:=fun y hy=>by
  have e:w.heap.size=y:=by injection hy
  subst e
  simp
 have key:=h w.heap.size _ (M.push (Joins.below_alloc1 w (.cells vs.toArray e)) (own_firm _ _ _) hlow (fun G _=>heap_alloc_new w _))
 rw[←hyl]at key
 exact wp_buildSlice t e ys.length _ ho vs.toArray ie z hu hie hz (by rw[hsz];omega) (by rw[hsz];omega) hf key
end
section
variable {P:Program} {dst:Option Tmp} {oty:TypeId} {pos:String} {after:Array Edge} {g:Option (Nat×Bool)} {l:List Value} {ds:List Deferred} {Q:Exit→Act→World→Prop} {K:Act→World→Prop}
variable {At:PS→World→Prop} {b:Nat} {u w:World} {s:PS} {L:List Ent} {ty e:Nat} {y0 y1 y2:Operand} {v0 v1 v2:Value}
theorem cells_one1{v:Value}(h:v.oneCell' =true):v.cells= #[v]:=by cases v<;>first|rfl|(simp[Value.oneCell']at h)
end
section
variable {P:Program} {dst:Option Tmp} {oty:TypeId} {pos:String} {after:Array Edge} {gu:Option (Nat×Bool)} {l:List Value} {ds:List Deferred} {Q:Exit→Act→World→Prop} {K:Act→World→Prop}
variable {At:PS→World→Prop} {b:Nat} {u w:World} {s:PS} {L:List Ent} {ty e n:Nat}
theorem Mem.k2{At:PS→World→Prop}{b:Nat}{u w:World}{s:PS}{L:List Ent}{e1 e2 x:Ent}(M:Mem At b u w s (e1::e2::x::L)):Mem At b u w s (e1::e2::L):=M.cut [e1,e2]
theorem Mem.swap2{At:PS→World→Prop}{b:Nat}{u w:World}{s:PS}{L:List Ent}{e1 e2 x:Ent}(M:Mem At b u w s (x::e1::e2::L)):Mem At b u w s (x::e2::e1::L):=M.perm ((List.Perm.swap e2 e1 L).cons x)
theorem Mem.turn3{At:PS→World→Prop}{b:Nat}{u w:World}{s:PS}{L:List Ent}{e1 e2 x:Ent}(M:Mem At b u w s (x::e1::e2::L)):Mem At b u w s (e1::e2::x::L):=M.perm (List.perm_middle (l₁:=[e1,e2])).symm
class SmI (n:Nat):Prop where
 le:n≤100
instance :SmI 1:=⟨by decide⟩
instance :SmI 2:=⟨by decide⟩
instance :SmI 3:=⟨by decide⟩
instance :SmI 4:=⟨by decide⟩
instance :SmI 5:=⟨by decide⟩
instance :SmI 6:=⟨by decide⟩
instance :SmI 7:=⟨by decide⟩
instance :SmI 8:=⟨by decide⟩
class RowsJ (l:List Value) (k:Nat) (xs:List (Nat×Operand)) (vs:outParam (List Value)):Prop where
 ev: ∃ ys:List Operand,(ys.zipIdx k).map (fun x=>(x.2,x.1))=xs∧ ∀ ds,ys.map (Act.eval ⟨l.toArray,ds⟩)=vs
 one: ∀ v∈vs,v.cells= #[v]
instance {l:List Value}{k:Nat}:RowsJ l k [] []:=⟨⟨[],rfl,fun _=>rfl⟩,fun v h=>by cases h⟩
instance {l:List Value}{k:Nat}{y:Operand}{v:Value}{xs:List (Nat×Operand)}{vs:List Value}[h:EvI l y v][c:OneC v][r:RowsJ l (k+1) xs vs]:RowsJ l k ((k,y)::xs) (v::vs):=
 ⟨r.ev.elim fun ys h' =>⟨y::ys,by rw[List.zipIdx_cons,List.map_cons,h'.1],fun ds=>by rw[List.map_cons,h.ev,h'.2]⟩,fun x hx=>by
  rcases List.mem_cons.1 hx with rfl|hx
  ·exact cells_one1 c.one
  ·exact r.one x hx⟩
theorem q_rows{x:Nat×Operand}{xs:List (Nat×Operand)}{v:Value}{vs:List Value}(M:Mem At b u w s L)[r:RowsJ l 0 (x::xs) (v::vs)][hn:LenI (v::vs) n][hT:RowI P ty e 1]{F:Nat→List Value}[hd: ∀ q,PutI l dst (.slice (some ⟨q,0,none⟩) n n) (F q)][hs:SmI n](h: ∀ q w',Mem At b u w' s (own q (v::vs) e::L)→K ⟨(F q).toArray,ds⟩ w'):OWP P ⟨dst,.buildSlice ty n (x::xs).toArray,oty,pos,after,gu⟩ ⟨l.toArray,ds⟩ w K Q:=by
 obtain⟨ys,h1,h2⟩:=r.ev
 have hl:=hn.len
 have hy:=h2 ds
 have hyl:ys.length=n:=by rw[←hl,←hy,List.length_map]
 refine owp_of (op_buildK M hT.row ys (by rw[h1,hyl]) (v::vs) hy r.one (by simp) (by rw[hl];exact hs.le) (fun q w' M' =>?_))
 rw[hl,(hd q).put]
 exact h q w' M'
end
end Go.Proofs.YtncmghnhfipklaaGreatDoor
/-
  The frame of a rule's patterns: plan.fresh. Printed by plh.py.
-/
namespace Go.Proofs.YtncmghnhfipklaaGreatDoor
open Go.RowKit
set_option linter.unusedVariables false
set_option linter.unusedSimpArgs false
def strC(s:ByteArray):List Value:=[.string s]
instance iStFrm:StI Tryz.prog 107 2:=⟨by kernel_rfl,_,Tryz.underlying107,rfl⟩
instance iRowStr:RowI Tryz.prog 84 9 1:=⟨⟨Tryz.underlying84,⟨.string ByteArray.empty,by kernel_rfl,rfl⟩,by kernel_rfl,by kernel_rfl,by omega,by omega⟩⟩
instance iOneStrs:OneI Tryz.prog 84:=⟨⟨by kernel_rfl,_,Tryz.underlying84,rfl⟩⟩
instance iOneIts:OneI Tryz.prog 26:=⟨⟨by kernel_rfl,_,Tryz.underlying26,rfl⟩⟩
instance iOneMat:OneI Tryz.prog 78:=⟨⟨by kernel_rfl,_,Tryz.underlying78,rfl⟩⟩
def fr0(k:Nat):Mx:=fun r c=>if r=c then 0 else if r % 2=0∧c=r+1∧r / 2<k then 0 else NOB
theorem fr0_next(k r c:Nat):setB (fr0 k) (2*k) (2*k+1) 0 r c=fr0 (k+1) r c:=by
 unfold setB fr0
 by_cases e:r=2*k∧c=2*k+1
 ·rw[if_pos e,if_neg (by omega),if_pos (by omega)]
 ·rw[if_neg e]
  by_cases e1:r=c
  ·rw[if_pos e1,if_pos e1]
  ·rw[if_neg e1,if_neg e1]
   by_cases e2:r % 2=0∧c=r+1∧r / 2<k
   ·rw[if_pos e2,if_pos (by omega)]
   ·rw[if_neg e2,if_neg (by omega)]
theorem fr0_free:fr0 0=freeG:=by
 funext r c
 unfold fr0 freeG
 by_cases e:r=c
 ·rw[if_pos e,if_pos e]
 ·rw[if_neg e,if_neg e,if_neg (by omega)]
section
variable {F:Nat→Prop} {g:Nat} {w0:World} {l:List Pat} {a:Option Addr} {n c:Nat}
abbrev FrmL(zf:Nat)(na:Option Addr)(nn nc A m cap:Nat)(gs rcs:Nat→Nat)(G:Mx)(l:List Pat):List Ent:=
 [own zf [.slice na nn nc,.slice (some ⟨A,0,none⟩) m cap] 107,dat (fun F w=>SlF F w 1 (plainF strC) na nn nc (l.map Pat.var)),grd A m cap gs rcs G]
set_option maxRecDepth 8000 in
set_option maxHeartbeats 16000000 in
theorem fresh_any(hg:g<w0.heap.size)(X:SlF F w0 18 patF a n c l)(h1:1≤n)(h6:n≤6):Calls Tryz.prog 46 #[.slice a n c] w0 fun e w' => ∃ zf na nc A cap gs rcs G,e= .returned (.pointer (some ⟨zf,0,none⟩))∧Mem (StaysB g w0) g w0 w' ⟨0,0⟩ (FrmL zf na (l.map Pat.var).length nc A (2*n) cap gs rcs G l)∧EqM (2*n) G (fr0 n):=by
 have M:=Mem.begin hg ⟨0,0⟩
 have HX:=Lib.hid X
 have hle:=X.le
 have N:=Lib.hid X.len
 have HFR:=Lib.hid (fun w=>free_grid (2*n) (by omega) w)
 clear hg X
 go_enter Tryz.func46,Tryz.ntmps46
 go_wp2_with (with_reducible (refine wB (L:=[]) M ?_;clear M;intro zf w1 M))
 replace M:=(M.none_ (R:=plainF strC) (plainF_firm _) 9 1).swap
 go_loopg [11] n (fun f i wr=> ∃ (j:Nat) (lv:Value) (ns:List ByteArray),j+f=n∧i= .int .i64 j∧Mem (StaysB g w0) g w0 wr ⟨0,0⟩ (own zf [lv,.slice none 0 0] 107::slc w0.heap.size 9 1 (plainF strC) lv ns::[])∧Hid (ns=(l.take j).map Pat.var))
 case atStart=>exact⟨0,_,[],by omega,rfl,M,Lib.hid rfl⟩
 case round=>
  clear M
  obtain⟨j,lv,ns,hj,rfl,M,HT⟩:=hrel
  by_cases hlt:j<n
  ·have hjl:j<l.length:=by have:=N.out;omega
   obtain⟨cp,op,rowp,hixp, -,hrrp,hwp⟩:=SlF.rowAt (P:=Tryz.prog) HX.out patF_firm Tryz.underlying40 size_pat (i:=j) hjl
   obtain⟨a2,n2,c2,ep, -⟩:=patF.open18 hrrp
   subst ep
   have HRP:=Lib.hid (fun wx hb=>(hwp wx hb).1)
   have HTS:Hid (ns++[l[j].var]=(l.take (j+1)).map Pat.var):=by show _=_;rw[HT.out,List.take_add_one,List.getElem?_eq_getElem hjl,List.map_append];rfl
   have HLN:Hid (ns.length≤100000):=by show _≤_;rw[HT.out,List.length_map,List.length_take];omega
   unfold pat18 at HRP
   clear hrrp hwp HT
   generalize l[j]=p at HRP HTS
   clear hjl
   go_upto_region 5 with(first|((with_reducible refine o_list rfl fun K hK=>?_);refine q_in M (by rfl) (by rfl) (by rfl) ?_;clear M;intro w M;(try simp only[List.set_cons_zero,List.set_cons_succ,laid,opdC,List.take_succ_cons,List.take_zero,List.drop_succ_cons,List.drop_zero,List.length_cons,List.length_nil,List.cons_append,List.nil_append,Nat.reduceAdd,Nat.zero_add]at M);refine hK _ _ ?_;clear hK K)|(with_reducible (first|(refine wV M ?_;clear M;intro zp w M)|refine wA (HRP.out _ M.new) ?_)))
   ((refine wp_region_first [0,1,2,3,4,5,6,9,10] [(true,0),(true,1),(true,2),(true,3),(true,4),(true,5),(true,6),(false,7),(false,8),(true,9),(true,10),(false,11)] (fun _ M=>M.k2) M (by kernel_rfl) (by kernel_rfl) (fun _ _ _ _ _ h=>h) ?_);clear M;intro w M;(repeat(first|((with_reducible refine m_read rfl M.kept fun K hK=>?_);(first|(refine r_load (l' :=?_) ⟨_,M.kept⟩ (fun w M=>?_) ?_;rotate_left;focus((refine q_get M (by exact rfl) ?_);refine⟨rfl,?_⟩;with_reducible rfl))|(refine r_pure (v:=?_) rfl (fun w=>?_) ?_;rotate_left;focus(go_simp;try with_reducible rfl)));(try go_simp);with_reducible refine hK _ ?_;clear hK K)|((with_reducible refine m_last rfl rfl (by with_unfolding_all decide+kernel) fun K hK=>?_);(((refine q_set M (by rfl) (by rfl) ?_);clear M;intro w M;(try simp only[List.set_cons_zero,List.set_cons_succ]at M)));(try go_simp);with_reducible refine hK _ _ ?_;clear hK K)|((with_reducible refine m_step rfl rfl fun K hK=>?_);(first|((refine q_rows M ?_;clear M;intro q w M))|((refine q_app (R:=plainF strC) (plainF_firm _) M 3 rfl p.var rfl (by rfl) (by rfl) HLN.out ?_;clear M;intro ra2 rc2 w M;(try simp only[List.set_cons_zero,List.set_cons_succ]at M))));(try go_simp);with_reducible refine hK _ _ M.kept ?_;clear hK K)));(with_reducible refine m_nil ?_))
   go_wp2_with (with_reducible (first|refine wq M ?_|(refine wS M ?_;clear M;intro w M)|(refine wV M ?_;clear M;intro z w M)|(refine wR M ?_;clear M;intro q w M)))
   go_roundg (n - (j+1))
   case measure=>omega
   case rel=>exact⟨j+1,_,ns++[p.var],by omega,by go_num,M.drop.drop,HTS⟩
  ·have hte:ns=l.map Pat.var:=by rw[HT.out,List.take_of_length_le (by have:=N.out;omega)]
   subst hte
   clear HT
   replace M:=M.swap
   obtain⟨na,nc,e1,M⟩:=M.done (plainF_firm _) (by omega)
   subst e1
   go_wp2_with (first|(go_at_call 76;refine(HFR.out _).mono ?_;rintro e w5 ⟨am,cap,gs,rfl,hb5,hG⟩;obtain⟨A,rcs,rfl,hX,hf⟩:=hG.fix (by omega);replace M:=M.grid hb5 hX hf;clear hG hb5 hf)|(with_reducible (refine wS M ?_;clear M;intro w M)))
   go_loopg [39] n (fun f i wr=> ∃ (k:Nat) (G:Mx),k+f=n∧i= .int .i64 k∧Mem (StaysB g w0) g w0 wr ⟨0,0⟩ (grd A (2*n) cap gs rcs G::own zf [.slice na (l.map Pat.var).length nc,.slice (some ⟨A,0,none⟩) (2*n) cap] 107::dat (fun F w=>SlF F w 1 (plainF strC) na (l.map Pat.var).length nc (l.map Pat.var))::[])∧Hid (EqM (2*n) G (fr0 k)))
   case atStart=>exact⟨0,_,by omega,rfl,M.swap2,Lib.hid (by rw[fr0_free];exact fun _ _ _ _=>rfl)⟩
   case round=>
    clear M
    obtain⟨k,G,hk,rfl,M,HG⟩:=hrel
    by_cases hkn:k<n
    ·have h2k:2*k<2*n:=by omega
     have h2k1:2*k+1<2*n:=by omega
     have hk6:k≤1000:=by omega
     have hixA: ∀ wx,(Instr.indexAt 78 (.slice (some ⟨A,0,none⟩) (2*n) cap) (.int .i64 (2*(k:Int)))).run Tryz.prog wx= .ok (.pointer (some ⟨A,2*k,none⟩)) wx:=fun wx=>(M.grid_ (i:=0) rfl).ixA h2k wx
     have hixR: ∀ wx,(Instr.indexAt 26 (.slice (some ⟨gs (2*k),0,none⟩) (2*n) (rcs (2*k))) (.int .i64 (2*(k:Int)+1))).run Tryz.prog wx= .ok (.pointer (some ⟨gs (2*k),2*k+1,none⟩)) wx:=fun wx=>(M.grid_ (i:=0) rfl).ixR h2k h2k1 wx
     have HGN:Hid (EqM (2*n) (setB G (2*k) (2*k+1) 0) (fr0 (k+1))):=fun r c hr hc=>by
      rw[←fr0_next]
      unfold setB
      rw[HG.out r c hr hc]
     go_upto_region 11 with(with_reducible (first|refine wq M ?_|(refine wS M ?_;clear M;intro w M)|(refine wV M ?_;clear M;intro z w M)|(refine wR M ?_;clear M;intro q w M)))
     ((refine wp_region_first [0,1,2,3,4,8,6,7,10] [(true,0),(true,1),(true,2),(true,3),(true,4),(true,8),(false,5),(true,6),(true,7),(false,9),(true,10),(false,11)] (fun _ M=>M) M (by kernel_rfl) (by kernel_rfl) (fun _ _ _ _ _ h=>h) ?_);clear M;intro w M;(repeat(first|((with_reducible refine m_read rfl M.kept fun K hK=>?_);(first|(refine r_load (l' :=?_) ⟨_,M.kept⟩ (fun w M=>?_) ?_;rotate_left;focus((first|(refine q_cellat (M.grow (i:=0) rfl h2k) ?_)|refine q_get M (by exact rfl) ?_);refine⟨rfl,?_⟩;with_reducible rfl))|(refine r_pure (v:=?_) rfl (fun w=>?_) ?_;rotate_left;focus(go_simp;try with_reducible rfl)));(try go_simp);with_reducible refine hK _ ?_;clear hK K)|((with_reducible refine m_last rfl rfl (by with_unfolding_all decide+kernel) fun K hK=>?_);((refine q_gput M (i:=0) rfl h2k h2k1 ?_;clear M;intro w M;(try simp only[List.set_cons_zero]at M)));(try go_simp);with_reducible refine hK _ _ ?_;clear hK K)|((with_reducible refine m_step rfl rfl fun K hK=>?_);(first|((refine owp_of ?_;go_simp;(go_at_call 77;with_reducible refine(pstart_any k hk6 _).mono ?_;rintro e w5 ⟨rfl,hb5⟩;replace M:=M.below hb5;clear hb5)))|((refine owp_of ?_;go_simp;(go_at_call 26;with_reducible refine(pend_any k hk6 _).mono ?_;rintro e w5 ⟨rfl,hb5⟩;replace M:=M.below hb5;clear hb5))));(try go_simp);with_reducible refine hK _ _ M.kept ?_;clear hK K)));(with_reducible refine m_nil ?_))
     go_wp2_with (with_reducible (first|refine wq M ?_|(refine wS M ?_;clear M;intro w M)|(refine wV M ?_;clear M;intro z w M)|(refine wR M ?_;clear M;intro q w M)))
     go_roundg (n - (k+1))
     case measure=>omega
     case rel=>exact⟨k+1,_,by omega,by go_num,M,HGN⟩
    ·have e:k=n:=by omega
     subst e
     go_wp2_with (with_reducible (first|refine wq M ?_|(refine wS M ?_;clear M;intro w M)|(refine wV M ?_;clear M;intro z w M)|(refine wR M ?_;clear M;intro q w M)))
     go_ret
     exact⟨_,_,_,_,_,_,_,_,rfl,M.turn3,HG.out⟩
end
end Go.Proofs.YtncmghnhfipklaaGreatDoor
/-
  The walks of the reference's BookFault, first part: names, places.
-/
namespace Go.Proofs.YtncmghnhfipklaaGreatDoor
open Go.RowKit
set_option linter.unusedVariables false
set_option linter.unusedSimpArgs false
def NoB{α:Type}(l:List α)(p:α→Bool)(k:Nat):Prop:= ∀ j (h:j<l.length),j<k→p l[j]=false
theorem noB_zero{α:Type}(l:List α)(p:α→Bool):NoB l p 0:=fun j _ h=>absurd h (Nat.not_lt_zero j)
theorem noB_succ{α:Type}{l:List α}{p:α→Bool}{k:Nat}(h:NoB l p k)(hk:k<l.length)(hp:p l[k]=false):NoB l p (k+1):=fun j hj hjk=>by
 rcases Nat.lt_succ_iff_lt_or_eq.1 hjk with h' |rfl
 ·exact h j hj h'
 ·exact hp
theorem noB_at{α:Type}{l:List α}{p:α→Bool}{k:Nat}(h:NoB l p k)(hk:k<l.length)(hp:p l[k]=true):l.findIdx p=k:=by
 rw[List.findIdx_eq hk]
 exact⟨hp,fun j hj=>h j (by omega) hj⟩
theorem noB_none{α:Type}{l:List α}{p:α→Bool}(h:NoB l p l.length):l.findIdx p=l.length:=by
 rw[List.findIdx_eq_length]
 intro x hx
 obtain⟨j,hj,rfl⟩:=List.mem_iff_getElem.1 hx
 exact h j hj hj
def placeV(i n:Nat):Int:=if i<n then(i:Int)else -1
theorem place_at{α:Type}{l:List α}{p:α→Bool}{k:Nat}(h:NoB l p k)(hk:k<l.length)(hp:p l[k]=true):placeV (l.findIdx p) l.length=k:=by
 rw[noB_at h hk hp];unfold placeV;rw[if_pos hk]
theorem place_none{α:Type}{l:List α}{p:α→Bool}(h:NoB l p l.length):placeV (l.findIdx p) l.length= -1:=by
 rw[noB_none h];unfold placeV;rw[if_neg (by omega)]
set_option maxHeartbeats 2000000 in
theorem freeName_any(s:ByteArray)(w:World)(hs:s.size≤maxLen):
  Calls Tryz.prog 52 #[.string s] w fun e w' =>e= .returned (.int .i64 (freeE s))∧Below w.heap.size w w' :=by
 have HN:=Lib.hid (fun wx=>nameFault_any s wx hs)
 have HK:Hid (∀ wx,Calls Tryz.prog 28 #[.string s] wx fun e w' =>e= .returned (.bool (keptB s))∧Below wx.heap.size wx w'):=fun wx=>by rw[kept_same];exact keptWord_any s wx
 by_cases h0:nameE s=0
 ·have HF:Hid (freeE s=if keptB s=true then 4 else 0):=by show _=_;unfold freeE;rw[if_pos h0]
  rw[HF.out]
  rw[h0]at HN
  generalize keptB s=k at HK
  clear h0 HF hs
  cases k
  ·go_enter Tryz.func52,Tryz.ntmps52
   go_wp2_with (first|(go_at_call 50;refine(HN.out _).mono ?_;rintro e w1 ⟨rfl,hb1⟩)|(go_at_call 28;refine(HK.out _).mono ?_;rintro e w2 ⟨rfl,hb2⟩))
   go_ret
   exact⟨rfl,(by repeat(assumption))⟩
  ·go_enter Tryz.func52,Tryz.ntmps52
   go_wp2_with (first|(go_at_call 50;refine(HN.out _).mono ?_;rintro e w1 ⟨rfl,hb1⟩)|(go_at_call 28;refine(HK.out _).mono ?_;rintro e w2 ⟨rfl,hb2⟩))
   go_ret
   exact⟨rfl,(by repeat(assumption))⟩
 ·have HF:Hid (freeE s=nameE s):=by show _=_;unfold freeE;rw[if_neg h0]
  rw[HF.out]
  have h0b:(nameE s==0)=false:=by simpa using h0
  clear h0 HF hs
  generalize nameE s=q at HN h0b
  go_enter Tryz.func52,Tryz.ntmps52
  go_wp2_with (go_at_call 50;refine(HN.out _).mono ?_;rintro e w1 ⟨rfl,hb1⟩)
  go_ret
  exact⟨rfl,(by repeat(exact Below.refl _ _))⟩
section
variable {g:Nat} {F:Nat→Prop} {ao:Option Addr} {n cap:Nat} {w:World}
set_option maxHeartbeats 2000000 in
theorem typeNamed_any(hg:g<w.heap.size){ts:List Typ}(hX:SlF F w 2 typF ao n cap ts)(nm:ByteArray):
  Calls Tryz.prog 29 #[.slice ao n cap,.string nm] w fun e w' =>e= .returned (.int .i64 (placeV (typI ts nm) ts.length))∧Below w.heap.size w w' :=by
 have NL:Hid (n=ts.length):=hX.len
 have hle:=hX.le
 have M:=Mem.begin hg ⟨0,0⟩
 have HX:=Lib.hid hX
 clear hX hg
 go_enter Tryz.func29,Tryz.ntmps29
 go_wp2_with fail
 go_loopw [5] (fun i wr=> ∃ k:Nat,k≤n∧i= .int .i64 k∧Mem (StaysB g w) g w wr ⟨0,0⟩ []∧Hid (NoB ts (fun t=>sameS t.name nm) k)) (fun i _=>n - (intOf i).toNat)
 case atStart=>exact⟨0,by omega,rfl,M,noB_zero _ _⟩
 case round=>
  clear M
  obtain⟨k,hk,rfl,M,HB⟩:=hrel
  by_cases hlt:k<n
  ·have hkl:k<ts.length:=by have:=NL.out;omega
   obtain⟨ca,oa,rowa,hixa, -,hrra,hwa⟩:=SlF.rowAt (P:=Tryz.prog) HX.out typF_firm Tryz.underlying22 size_typ (i:=k) hkl
   obtain⟨p1,q1,s1,ea,u1⟩:=hrra
   subst ea
   have HA0:Hid (∀ wx,Below w.heap.size w wx→wx.cell? ⟨ca,oa,none⟩=some (.string ts[k].name)):=fun wx hb=>(hwa wx hb).1 0 _ rfl
   have HP:Hid (∀ b,sameS ts[k].name nm=b→(ts[k].name.toList==nm.toList)=b):=fun b h=>h
   have HS:Hid (sameS ts[k].name nm=true→placeV (typI ts nm) ts.length=k):=fun h=>place_at HB.out hkl h
   have HT:Hid (sameS ts[k].name nm=false→NoB ts (fun t=>sameS t.name nm) (k+1)):=fun h=>noB_succ HB.out hkl h
   clear hwa u1 HB
   generalize ts[k].name=tn at HA0 HP HS HT
   cases hsm:sameS tn nm with
   |true=>
    have hq:=HP.out _ hsm
    have HV:=Lib.hid (HS.out hsm)
    clear HP HS HT hsm
    go_wp2_with (with_reducible refine wC (HA0.out _ M.new) ?_)
    go_ret
    rw[HV.out]
    exact⟨rfl,M.new⟩
   |false=>
    have hq:=HP.out _ hsm
    have HV:=Lib.hid (HT.out hsm)
    clear HP HS HT hsm
    go_wp2_with (with_reducible refine wC (HA0.out _ M.new) ?_)
    go_roundw
    case rel=>exact⟨k+1,by omega,by go_num,M,HV⟩
    case measure=>simp[intOf];omega
  ·have HV:Hid (placeV (typI ts nm) ts.length= -1):=by
    have e:k=ts.length:=by have:=NL.out;omega
    exact place_none (e▸HB.out)
   go_wp2
   go_ret
   rw[HV.out]
   exact⟨rfl,M.new⟩
set_option maxHeartbeats 2000000 in
theorem patternNamed_any(hg:g<w.heap.size){ts:List Pat}(hX:SlF F w 18 patF ao n cap ts)(nm:ByteArray):
  Calls Tryz.prog 59 #[.slice ao n cap,.string nm] w fun e w' =>e= .returned (.int .i64 (placeV (patI ts nm) ts.length))∧Below w.heap.size w w' :=by
 have NL:Hid (n=ts.length):=hX.len
 have hle:=hX.le
 have M:=Mem.begin hg ⟨0,0⟩
 have HX:=Lib.hid hX
 clear hX hg
 go_enter Tryz.func59,Tryz.ntmps59
 go_wp2_with fail
 go_loopw [5] (fun i wr=> ∃ k:Nat,k≤n∧i= .int .i64 k∧Mem (StaysB g w) g w wr ⟨0,0⟩ []∧Hid (NoB ts (fun t=>sameS t.var nm) k)) (fun i _=>n - (intOf i).toNat)
 case atStart=>exact⟨0,by omega,rfl,M,noB_zero _ _⟩
 case round=>
  clear M
  obtain⟨k,hk,rfl,M,HB⟩:=hrel
  by_cases hlt:k<n
  ·have hkl:k<ts.length:=by have:=NL.out;omega
   obtain⟨ca,oa,rowa,hixa, -,hrra,hwa⟩:=SlF.rowAt (P:=Tryz.prog) HX.out patF_firm Tryz.underlying40 size_pat (i:=k) hkl
   obtain⟨p1,q1,s1,ea,u1⟩:=hrra
   subst ea
   have HA0:Hid (∀ wx,Below w.heap.size w wx→wx.cell? ⟨ca,oa,none⟩=some (.string ts[k].var)):=fun wx hb=>(hwa wx hb).1 0 _ rfl
   have HP:Hid (∀ b,sameS ts[k].var nm=b→(ts[k].var.toList==nm.toList)=b):=fun b h=>h
   have HS:Hid (sameS ts[k].var nm=true→placeV (patI ts nm) ts.length=k):=fun h=>place_at HB.out hkl h
   have HT:Hid (sameS ts[k].var nm=false→NoB ts (fun t=>sameS t.var nm) (k+1)):=fun h=>noB_succ HB.out hkl h
   clear hwa u1 HB
   generalize ts[k].var=tn at HA0 HP HS HT
   cases hsm:sameS tn nm with
   |true=>
    have hq:=HP.out _ hsm
    have HV:=Lib.hid (HS.out hsm)
    clear HP HS HT hsm
    go_wp2_with (with_reducible refine wC (HA0.out _ M.new) ?_)
    go_ret
    rw[HV.out]
    exact⟨rfl,M.new⟩
   |false=>
    have hq:=HP.out _ hsm
    have HV:=Lib.hid (HT.out hsm)
    clear HP HS HT hsm
    go_wp2_with (with_reducible refine wC (HA0.out _ M.new) ?_)
    go_roundw
    case rel=>exact⟨k+1,by omega,by go_num,M,HV⟩
    case measure=>simp[intOf];omega
  ·have HV:Hid (placeV (patI ts nm) ts.length= -1):=by
    have e:k=ts.length:=by have:=NL.out;omega
    exact place_none (e▸HB.out)
   go_wp2
   go_ret
   rw[HV.out]
   exact⟨rfl,M.new⟩
end
end Go.Proofs.YtncmghnhfipklaaGreatDoor
/-
  Types of the checker, for the steps over own memory.
-/
namespace Go.Proofs.YtncmghnhfipklaaGreatDoor
open Go.RowKit
set_option linter.unusedVariables false
set_option linter.unusedSimpArgs false
instance :StI Tryz.prog 55 3:=⟨⟨by kernel_rfl,_,Tryz.underlying55,rfl⟩⟩
instance :ZeI Tryz.prog 55 [.int .i64 0,.int .i64 0,.string ByteArray.empty]:=⟨⟨by kernel_rfl⟩⟩
instance :StI Tryz.prog 90 2:=⟨⟨by kernel_rfl,_,Tryz.underlying90,rfl⟩⟩
instance :OneI Tryz.prog 4:=⟨⟨by kernel_rfl,_,Tryz.underlying4,rfl⟩⟩
instance :OneI Tryz.prog 84:=⟨⟨by kernel_rfl,_,Tryz.underlying84,rfl⟩⟩
instance :OneI Tryz.prog 88:=⟨⟨by kernel_rfl,_,Tryz.underlying88,rfl⟩⟩
instance :RowI Tryz.prog 84 9 1:=⟨⟨Tryz.underlying84,⟨.string ByteArray.empty,by kernel_rfl,rfl⟩,by kernel_rfl,by kernel_rfl,by omega,by omega⟩⟩
end Go.Proofs.YtncmghnhfipklaaGreatDoor
