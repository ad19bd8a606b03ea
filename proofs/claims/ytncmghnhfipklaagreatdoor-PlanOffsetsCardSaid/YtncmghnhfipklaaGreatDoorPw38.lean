/-
  Offsets, in plain Lean: what each type's events are wanted for; numbers held still.
-/
import Derived.Test.YtncmghnhfipklaaGreatDoorPw37
namespace Go.Proofs.YtncmghnhfipklaaGreatDoor
open Go.RowKit
set_option linter.unusedVariables false
set_option linter.unusedSimpArgs false
abbrev nums(z n:Nat)(f:Nat→Int):Ent:=own z ((List.range n).map fun i=>Value.int .i64 (f i)) 3
def upd(f:Nat→Int)(i:Nat)(v:Int):Nat→Int:=fun t=>if t=i then v else f t
theorem nums_set{n i:Nat}{f:Nat→Int}{v:Int}:((List.range n).map fun t=>Value.int .i64 (f t)).set i (.int .i64 v)=(List.range n).map fun t=>Value.int .i64 (upd f i v t):=by
 apply List.ext_getElem
 ·simp
 ·intro j h1 h2
  simp only[List.getElem_set,List.getElem_map,List.getElem_range,upd]
  by_cases e:i=j
  ·rw[if_pos e,if_pos e.symm]
  ·rw[if_neg e,if_neg (fun q=>e q.symm)]
theorem nums_congr{z n:Nat}{f f' :Nat→Int}(h: ∀ t,t<n→f t=f' t):nums z n f=nums z n f' :=by
 have e:((List.range n).map fun i=>Value.int .i64 (f i))=(List.range n).map fun i=>Value.int .i64 (f' i):=List.map_congr_left fun t ht=>by rw[h t (List.mem_range.1 ht)]
 show own _ _ _=own _ _ _
 rw[e]
theorem nums_ix{z n k:Nat}(hk:k<n)(wx:World):(Instr.indexAt 26 (.slice (some ⟨z,0,none⟩) n n) (.int .i64 k)).run Tryz.prog wx= .ok (.pointer (some ⟨z,k,none⟩)) wx:=by
 have h:=ix_row (A:=z) (off:=0) hk (Nat.le_refl n) wx
 rwa[Nat.zero_add]at h
theorem nums_made(n:Nat):madeCells (Value.int .i64 0).cells n=((List.range n).map fun _=>Value.int .i64 0).toArray:=by
 unfold madeCells
 apply Array.ext'
 simp[Value.cells,Nat.mod_one]
section
variable {At:PS→World→Prop} {b:Nat} {u w:World} {s:PS} {L:List Ent} {i z n k:Nat} {f:Nat→Int}
theorem Mem.ncell(M:Mem At b u w s L)(hi:L[i]?=some (nums z n f))(hk:k<n):w.cell? ⟨z,k,none⟩=some (.int .i64 (f k)):=by
 rw[(M.own_ (Mem.of_get hi)).cell k]
 simp[hk]
theorem Mem.nslf(M:Mem At b u w s L)(hi:L[i]?=some (nums z n f))(hn:n≤1000):SlF (fun y=>y=z) w 1 intF (some ⟨z,0,none⟩) n n ((List.range n).map f):=by
 refine⟨by simp,Nat.le_refl _,by unfold maxLen;omega,fun h=>(by cases h),fun j hj=>?_⟩
 have hjn:j<n:=by simpa using hj
 refine⟨z,0,[.int .i64 (f j)],rfl,rfl,(M.ne (Mem.of_get hi)).2.2,⟨rfl,fun q hq=>?_⟩,?_⟩
 ·obtain rfl:q=0:=by omega
  simpa using M.ncell hi hjn
 ·show [_]=[_]
  simp
end
section
variable {P:Program} {dst:Option Tmp} {oty:TypeId} {pos:String} {after:Array Edge} {g:Option (Nat×Bool)} {l l' :List Value} {ds:List Deferred} {Q:Exit→Act→World→Prop} {K:Act→World→Prop}
variable {At:PS→World→Prop} {b:Nat} {u w:World} {s:PS} {L:List Ent} {i z n k j ty:Nat} {f:Nat→Int} {v:Int} {y:Operand}
theorem q_nput(M:Mem At b u w s L)(hi:L[i]?=some (nums z n f))(hk:k<n)[hx:Nth l j (.pointer (some ⟨z,k,none⟩))][hy:EvI l y (.int .i64 v)][hT:OneI P ty][hd:PutI l dst undef l'](h: ∀ w',Mem At b u w' s (L.set i (nums z n (upd f k v)))→K ⟨l'.toArray,ds⟩ w'):OWP P ⟨dst,.store ty (.tmp j) y,oty,pos,after,g⟩ ⟨l.toArray,ds⟩ w K Q:=
 owp_of (op_setT M ty _ _ rfl z k (.int .i64 v) (eval_tmp hx.nth) (hy.ev ds) hi hT.one (by simpa using hk) rfl (fun w' M' =>by rw[hd.put];exact h w' (by rw[nums_set]at M';exact M')))
theorem q_makes(M:Mem At b u w s L)[hx:Nth l j (.int .i64 (n:Int))](hn:n≤1000){F:Nat→List Value}[hd: ∀ z,PutI l dst (.slice (some ⟨z,0,none⟩) n n) (F z)](h: ∀ z w',Mem At b u w' s (nums z n (fun _=>0)::L)→K ⟨(F z).toArray,ds⟩ w'):OWP Tryz.prog ⟨dst,.makeSlice 26 (.tmp j) (.tmp j),oty,pos,after,g⟩ ⟨l.toArray,ds⟩ w K Q:=by
 obtain⟨i0,hi,hz0,hz1,hz2⟩:=info_parts info_int
 have hrun:=run_makeSlice w 26 3 i0 (.int .i64 0) Tryz.underlying26 hi hz0 .i64 .i64 n n (by omega) (by omega) (by rw[hz1];omega) (by rw[hz2];omega) (by omega)
 have e:(n:Int).toNat=n:=Int.toNat_natCast n
 rw[e,hz1,Nat.mul_one,nums_made]at hrun
 refine owp_of ?_
 unfold Oper.wp execOp
 simp only[eval_tmp hx.nth,Sem.run_bind,Sem.run_pure,Result.andThen_ok,hrun]
 have hlow: ∀ y,(nums w.heap.size n (fun _=>0)).blk y→w.heap.size≤y∧y<(w.alloc (.cells ((List.range n).map fun _=>Value.int .i64 0).toArray 3)).heap.size:=fun y hy=>by
  have e:w.heap.size=y:=by injection hy
  subst e
  simp
 have key:=h w.heap.size (w.alloc (.cells ((List.range n).map fun _=>Value.int .i64 0).toArray 3)) (M.push (Joins.below_alloc1 w _) (own_firm _ _ _) hlow (fun G _=>heap_alloc_new w _))
 simp only[Oper.upon]
 rw[(hd _).put]
 exact key
theorem q_var1{v0:Value}(M:Mem At b u w s L)(hi:(P.info? ty).map (·.zero)=some (some v0))(hv:v0.cells= #[v0]){F:Nat→List Value}[hd: ∀ z,PutI l dst (.pointer (some ⟨z,0,none⟩)) (F z)](h: ∀ z w',Mem At b u w' s (own z [v0] ty::L)→K ⟨(F z).toArray,ds⟩ w'):OWP P ⟨dst,.alloc ty,oty,pos,after,g⟩ ⟨l.toArray,ds⟩ w K Q:=
 owp_of (op_var M ty rfl [v0] v0 hv hi (fun z w' M' =>by rw[(hd z).put];exact h z w' M'))
class EvsI (l:List Value) (ys:List Operand) (vs:outParam (List Value)):Prop where
 evs: ∀ ds,ys.map (Act.eval ⟨l.toArray,ds⟩)=vs
instance {l:List Value}:EvsI l [] []:=⟨fun _=>rfl⟩
instance {l:List Value}{y:Operand}{ys:List Operand}{v:Value}{vs:List Value}[h:EvI l y v][h' :EvsI l ys vs]:EvsI l (y::ys) (v::vs):=⟨fun ds=>by rw[List.map_cons,h.ev,h'.evs]⟩
theorem q_funcs(fn:Fn){ys:List Operand}{vs:List Value}[hc:EvsI l ys vs]{l' :List Value}[hd:PutI l dst (.func fn #[] vs.toArray) l'](h:K ⟨l'.toArray,ds⟩ w):OWP P ⟨dst,.makeFunc fn #[] ys.toArray,oty,pos,after,g⟩ ⟨l.toArray,ds⟩ w K Q:=by
 refine owp_of ?_
 have hk:K (Act.put ⟨l.toArray,ds⟩ dst (.func fn #[] vs.toArray)) w:=by rw[hd.put];exact h
 unfold Oper.wp execOp
 simp only[Instr.makeFunc,Sem.run_bind,Sem.run_pure,Result.andThen_ok,List.map_toArray,List.map_nil,hc.evs]
 exact hk
end
def nameT(ts:List Typ)(t:Nat):ByteArray:=(ts[t]?.map Typ.name).getD ByteArray.empty
theorem nameT_at{ts:List Typ}{t:Nat}(h:t<ts.length):nameT ts t=ts[t].name:=by unfold nameT;rw[List.getElem?_eq_getElem h];rfl
def raiseK(ts:List Typ)(f:Nat→Int)(p:ByteArray×Int)(k:Nat):Nat→Int:=fun t=>if t<k then raise1 (nameT ts t) (f t) p else f t
theorem raiseK_next(ts:List Typ)(f:Nat→Int)(p:ByteArray×Int)(k:Nat):raiseK ts f p (k+1)=upd (raiseK ts f p k) k (raise1 (nameT ts k) (raiseK ts f p k k) p):=by
 funext t
 unfold raiseK upd
 by_cases e:t=k
 ·subst e
  rw[if_pos (Nat.lt_succ_self t),if_pos rfl,if_neg (Nat.lt_irrefl t)]
 ·rw[if_neg e]
  show(if t<k+1 then raise1 (nameT ts t) (f t) p else f t)=(if t<k then raise1 (nameT ts t) (f t) p else f t)
  by_cases h:t<k
  ·rw[if_pos h,if_pos (by omega)]
  ·rw[if_neg h,if_neg (by omega)]
theorem upd_self(f:Nat→Int)(k:Nat):upd f k (f k)=f:=by
 funext t
 unfold upd
 split
 ·rename_i e;rw[e]
 ·rfl
section
variable {At:PS→World→Prop} {g:Nat} {w0 wE:World} {L:List Ent} {F:Nat→Prop} {ts:List Typ} {zo zv zb n1 c1 n2 c2:Nat} {a1 a2:Option Addr} {f:Nat→Int}
abbrev OutL(zo zv zb n1:Nat)(a1:Option Addr)(c1:Nat)(a2:Option Addr)(n2 c2:Nat)(f:Nat→Int)(L:List Ent):List Ent:=nums zo n1 f::own zv [.slice (some ⟨zo,0,none⟩) n1 n1] 26::own zb [.slice a1 n1 c1,.slice a2 n2 c2] 25::L
set_option maxRecDepth 8000 in
set_option maxHeartbeats 8000000 in
theorem raise_any(M:Mem (StaysB g w0) g w0 wE ⟨0,0⟩ (OutL zo zv zb n1 a1 c1 a2 n2 c2 f L))(X1:SlF F w0 2 typF a1 n1 c1 ts)(h6:n1≤6)(nm:ByteArray)(v:Int):
  Calls Tryz.prog 16 #[.string nm,.int .i64 v,.pointer (some ⟨zb,0,none⟩),.pointer (some ⟨zv,0,none⟩)] wE fun e w' =>e= .returned (.tuple #[])∧Mem (StaysB g w0) g w0 w' ⟨0,0⟩ (OutL zo zv zb n1 a1 c1 a2 n2 c2 (fun t=>raise1 (nameT ts t) (f t) (nm,v)) L):=by
 have HX:=Lib.hid X1
 have N1:=Lib.hid X1.len
 have hle:=X1.le
 have HE:Hid (∀ t,t<n1→raiseK ts f (nm,v) n1 t=raise1 (nameT ts t) (f t) (nm,v)):=fun t ht=>by unfold raiseK;rw[if_pos ht]
 clear X1
 go_enter Tryz.func16,Tryz.ntmps16
 go_wp2_with (with_reducible refine wq M ?_)
 go_loopg [11] n1 (fun f' i wr=> ∃ (k:Nat),k+f' =n1∧i= .int .i64 k∧Mem (StaysB g w0) g w0 wr ⟨0,0⟩ (OutL zo zv zb n1 a1 c1 a2 n2 c2 (raiseK ts f (nm,v) k) L))
 case atStart=>exact⟨0,by omega,rfl,by rw[show raiseK ts f (nm,v) 0=f from funext fun t=>if_neg (Nat.not_lt_zero t)];exact M⟩
 case round=>
  clear M
  obtain⟨k,hk,rfl,M⟩:=hrel
  by_cases hlt:k<n1
  ·have hkl:k<ts.length:=by have:=N1.out;omega
   obtain⟨cp,op,rowp,hixp, -,hrrp,hwp⟩:=SlF.rowAt (P:=Tryz.prog) HX.out typF_firm Tryz.underlying22 size_typ (i:=k) hkl
   obtain⟨a5,q5,c5,ep, -⟩:=hrrp
   subst ep
   have HRP:=Lib.hid (fun wx hb=>(hwp wx hb).1)
   have HN:=Lib.hid (raiseK_next ts f (nm,v) k)
   have HNM:=Lib.hid (nameT_at hkl)
   unfold typC at HRP
   clear hwp
   generalize ts[k]=ty at HRP HNM
   clear hkl
   have HR1:Hid (∀ b,sameS ty.name nm=b→(ty.name.toList==nm.toList)=b):=fun b h=>h
   have hix:=fun wx=>nums_ix (z:=zo) hlt wx
   rw[HNM.out]at HN
   cases hsm:sameS ty.name nm with
   |true=>
    have hq:=HR1.out _ hsm
    have HN2:Hid (raiseK ts f (nm,v) (k+1)=upd (raiseK ts f (nm,v) k) k (max (raiseK ts f (nm,v) k k) v)):=by show _=_;rw[HN.out];unfold raise1;rw[if_pos hsm]
    clear HN hsm HR1
    generalize raiseK ts f (nm,v) k=fk at HN2 M
    go_upto_region 4 with(with_reducible (first|(refine wV M ?_;clear M;intro zt w M)|refine wA (HRP.out _ M.new) ?_|refine wq M ?_|(refine wS M ?_;clear M;intro w M)))
    ((refine wp_region_first [0,1,2,3,4,5,6,8] [(true,0),(true,1),(true,2),(true,3),(true,4),(true,5),(true,6),(false,7),(true,8),(false,9)] (fun _ M=>M) M (by kernel_rfl) (by kernel_rfl) (fun _ _ _ _ _ h=>h) ?_);clear M;intro w M;(repeat(first|((with_reducible refine m_read rfl M.kept fun K hK=>?_);(first|(refine r_load (l' :=?_) ⟨_,M.kept⟩ (fun w M=>?_) ?_;rotate_left;focus((first|(refine q_cellat (M.ncell (i:=1) rfl hlt) ?_)|refine q_get M (by exact rfl) ?_);refine⟨rfl,?_⟩;with_reducible rfl))|(refine r_pure (v:=?_) rfl (fun w=>?_) ?_;rotate_left;focus(go_simp;try with_reducible rfl)));(try go_simp);with_reducible refine hK _ ?_;clear hK K)|((with_reducible refine m_last rfl rfl (by with_unfolding_all decide+kernel) fun K hK=>?_);((refine q_nput M (i:=1) rfl hlt ?_;clear M;intro w M;(try simp only[List.set_cons_zero,List.set_cons_succ]at M)));(try go_simp);with_reducible refine hK _ _ ?_;clear hK K)|((with_reducible refine m_step rfl rfl fun K hK=>?_);(refine owp_of ?_;go_simp);(try go_simp);with_reducible refine hK _ _ M.kept ?_;clear hK K)));(with_reducible refine m_nil ?_))
    go_wp2_with (with_reducible (first|refine wq M ?_|(refine wS M ?_;clear M;intro w M)|(refine wV M ?_;clear M;intro z w M)|(refine wR M ?_;clear M;intro q w M)))
    go_roundg (n1 - (k+1))
    case measure=>omega
    case rel=>exact⟨k+1,by omega,by go_num,by rw[HN2.out];exact M.drop⟩
   |false=>
    have hq:=HR1.out _ hsm
    have HN2:Hid (raiseK ts f (nm,v) (k+1)=raiseK ts f (nm,v) k):=by show _=_;rw[HN.out];unfold raise1;rw[if_neg (by rw[hsm];decide)];exact upd_self _ _
    clear HN hsm HR1
    generalize raiseK ts f (nm,v) k=fk at HN2 M
    go_wp2_with (with_reducible (first|(refine wV M ?_;clear M;intro zt w M)|refine wA (HRP.out _ M.new) ?_|refine wq M ?_|(refine wS M ?_;clear M;intro w M)))
    go_roundg (n1 - (k+1))
    case measure=>omega
    case rel=>exact⟨k+1,by omega,by go_num,by rw[HN2.out];exact M.drop⟩
  ·have e:n1=k:=by omega
   subst e
   go_wp2_with (with_reducible (first|refine wq M ?_|(refine wS M ?_;clear M;intro w M)|(refine wV M ?_;clear M;intro z w M)|(refine wR M ?_;clear M;intro q w M)))
   go_end0
   refine⟨rfl,?_⟩
   have e:nums zo n1 (raiseK ts f (nm,v) n1)=nums zo n1 (fun t=>raise1 (nameT ts t) (f t) (nm,v)):=nums_congr HE.out
   unfold OutL at M ⊢
   rw[e]at M
   exact M
end
def codeK(b:Bok)(k:Nat):Int:=(planE (b.rules.getD k rul00)).2
def offC(b:Bok):Int:=firstN (codeK b) b.rules.length
def offV(b:Bok)(k t:Nat):Int:=(b.rules.take k).foldl (fun o x=>raiseR (nameT b.types t) o x (planE x).1) 0
def offR(b:Bok):List Int×Int:=if bookE b≠0 then([],bookE b)else if offC b=0 then((List.range b.types.length).map (offV b b.rules.length),0)else([],offC b)
theorem codeK_at{b:Bok}{k:Nat}(h:k<b.rules.length):codeK b k=(planE b.rules[k]).2:=by unfold codeK;rw[List.getD_eq_getElem?_getD,List.getElem?_eq_getElem h];rfl
theorem offV_next{b:Bok}{k:Nat}(h:k<b.rules.length)(t:Nat):offV b (k+1) t=raiseR (nameT b.types t) (offV b k t) b.rules[k] (planE b.rules[k]).1:=by
 unfold offV
 rw[←List.take_append_getElem h,List.foldl_append]
 rfl
theorem offR_bad{b:Bok}(h:bookE b≠0):offR b=([],bookE b):=by unfold offR;rw[if_pos h]
theorem offR_stop{b:Bok}{k:Nat}(h:bookE b=0)(hA:AllZ (codeK b) k)(hk:k<b.rules.length){c:Int}(hc:(planE b.rules[k]).2=c)(h0:c≠0):offR b=([],c):=by
 have e:offC b=c:=by unfold offC;rw[firstN_at hA hk (by rw[codeK_at hk,hc];exact h0),codeK_at hk,hc]
 unfold offR
 rw[if_neg (fun q=>q h),e,if_neg h0]
theorem offR_end{b:Bok}(h:bookE b=0)(hA:AllZ (codeK b) b.rules.length):offR b=((List.range b.types.length).map (offV b b.rules.length),0):=by
 unfold offR
 have e:offC b=0:=firstN_zero hA
 rw[if_neg (fun q=>q h),if_pos e]
theorem codeK_step{b:Bok}{k:Nat}(hA:AllZ (codeK b) k)(hk:k<b.rules.length)(h:(planE b.rules[k]).2=0):AllZ (codeK b) (k+1):=allZ_succ hA (by rw[codeK_at hk,h])
def FW(nm:ByteArray)(o:Int)(l:List (ByteArray×Int))(i:Nat):Int:=(l.take i).foldl (raise1 nm) o
theorem FW_zero(nm:ByteArray)(o:Int)(l:List (ByteArray×Int)):FW nm o l 0=o:=by unfold FW;simp
theorem FW_all(nm:ByteArray)(o:Int){l:List (ByteArray×Int)}{i:Nat}(h:l.length≤i):FW nm o l i=l.foldl (raise1 nm) o:=by unfold FW;rw[List.take_of_length_le h]
theorem FW_next(nm:ByteArray)(o:Int){α:Type}{xs:List α}{f:α→ByteArray}{vs:List Int}{i:Nat}(h1:i<xs.length)(h2:vs.length=xs.length):FW nm o ((xs.map f).zip vs) (i+1)=raise1 nm (FW nm o ((xs.map f).zip vs) i) (f xs[i],vs.getD i 0):=by
 have hl:i<((xs.map f).zip vs).length:=by simp;omega
 unfold FW
 rw[←List.take_append_getElem hl,List.foldl_append]
 have e:((xs.map f).zip vs)[i]=(f xs[i],vs.getD i 0):=by simp[List.getD,List.getElem?_eq_getElem (show i<vs.length by omega)]
 rw[e]
 rfl
def wL(x:Rul)(p:Pln):List (ByteArray×Int):=(x.whens.map Pat.type).zip p.whens
def nL(x:Rul)(p:Pln):List (ByteArray×Int):=(x.nots.map Pat.type).zip p.nots
def mL(x:Rul)(p:Pln):List (ByteArray×Int):=(x.manies.map fun m=>m.pat.type).zip p.manies
theorem raise_three(nm:ByteArray)(o:Int)(x:Rul)(p:Pln):raiseR nm o x p=(mL x p).foldl (raise1 nm) ((nL x p).foldl (raise1 nm) ((wL x p).foldl (raise1 nm) o)):=by
 unfold raiseR namesT wL nL mL
 rw[List.foldl_append,List.foldl_append]
theorem plan_lens{x:Rul}(h:(planE x).2=0):(planE x).1.whens.length=x.whens.length∧(planE x).1.nots.length=x.nots.length∧(planE x).1.manies.length=x.manies.length:=by
 unfold planE at *
 cases hw:wholeF x []with
 |none=>
  rw[hw]at h
  have h:(16:Int)=0:=h
  exact absurd h (by decide)
 |some f=>
  rw[hw]at h
  simp only at h ⊢
  by_cases hD:delayF x x.nots.length=NOB
  ·rw[if_pos hD]at h
   have h:(15:Int)=0:=h
   exact absurd h (by decide)
  ·rw[if_neg hD]
   simp
def IntsX(A off n:Nat)(xs:List Int)(F:Nat→Prop)(w:World):Prop:= ∀ i,i<n→F A∧A<w.heap.size∧w.cell? ⟨A,off+i,none⟩=some (.int .i64 (xs.getD i 0))
theorem intsX_firm{A off n:Nat}{xs:List Int}:FirmD (IntsX A off n xs):=fun F G w w' hs h i hi=>by
 obtain⟨h1,h2,h3⟩:=h i hi
 have h4:=hs.2 A h1 h2
 exact⟨h4.1,Nat.lt_of_lt_of_le h2 hs.1,(World.cell?_of_block (w:=w) (a:=⟨A,off+i,none⟩) h4.2).trans h3⟩
theorem ints_of{F:Nat→Prop}{w:World}{ao:Option Addr}{n cap:Nat}{xs:List Int}(h:SlF F w 1 intF ao n cap xs): ∃ A off,(∀ i,i<n→ ∀ wx,(Instr.indexAt 26 (.slice ao n cap) (.int .i64 i)).run Tryz.prog wx= .ok (.pointer (some ⟨A,off+i,none⟩)) wx)∧IntsX A off n xs F w:=by
 by_cases hn:n=0
 ·exact⟨0,0,fun i hi=>absurd hi (by omega),fun i hi=>absurd hi (by omega)⟩
 ·have hl:=h.len
  have hle:=h.le
  obtain⟨A,off,row0,e0, -⟩:=h.2.2.2.2 0 (by omega)
  subst e0
  refine⟨A,off,fun i hi wx=>ix_row hi hle.1 wx,fun i hi=>?_⟩
  have him:i<xs.length:=by omega
  obtain⟨B2,o2,row2,e2,hF2,hlt2,hr2,hx2⟩:=h.2.2.2.2 i him
  injection e2 with e2
  injection e2 with e3 e4
  subst e3 e4
  obtain rfl:=intF_one hx2
  have:=hr2.2 0 (by omega)
  refine⟨hF2,hlt2,?_⟩
  rw[show xs.getD i 0=xs[i]by simp[List.getD,List.getElem?_eq_getElem him]]
  simpa using this
section
variable {At:PS→World→Prop} {b:Nat} {u w:World} {s:PS} {L:List Ent} {A off n i k:Nat} {xs:List Int}
theorem Mem.icell(M:Mem At b u w s L)(hi:L[i]?=some (dat (IntsX A off n xs)))(hk:k<n):w.cell? ⟨A,off+k,none⟩=some (.int .i64 (xs.getD k 0)):=((M.dat_ hi) k hk).2.2
end
def OffP(r:List Int×Int)(w0:World)(e:Ending)(w' :World):Prop:= ∃ a n c,e= .returned (.tuple #[.slice a n c,.int .i64 r.2])∧Below w0.heap.size w0 w' ∧SlF (from_ w0.heap.size) w' 1 intF a n c r.1
end Go.Proofs.YtncmghnhfipklaaGreatDoor
