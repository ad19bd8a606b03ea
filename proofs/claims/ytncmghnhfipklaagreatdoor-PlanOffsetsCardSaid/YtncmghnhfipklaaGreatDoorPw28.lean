/-
  The program's Check, eighth part: what a scope holds, what names are taken, in plain Lean; slices of numbers made.
-/
import Derived.Test.YtncmghnhfipklaaGreatDoorPw19
import Derived.Test.YtncmghnhfipklaaGreatDoorPw24
import Derived.Test.YtncmghnhfipklaaGreatDoorPw26
import Derived.Test.YtncmghnhfipklaaGreatDoorPw27
import Derived.Test.YtncmghnhfipklaaGreatDoorPw15
import Derived.Test.YtncmghnhfipklaaGreatDoorPw16
import Derived.Test.YtncmghnhfipklaaGreatDoorPw09
import Derived.Test.YtncmghnhfipklaaGreatDoorPw05
import Derived.Test.YtncmghnhfipklaaGreatDoorPw10
import Derived.Test.YtncmghnhfipklaaGreatDoorPu07
import Derived.Test.YtncmghnhfipklaaGreatDoorPu05
namespace Go.Proofs.YtncmghnhfipklaaGreatDoor
open Go.RowKit
set_option linter.unusedVariables false
set_option linter.unusedSimpArgs false
theorem sameS_self(a:ByteArray):sameS a a=true:=by unfold sameS;simp
theorem toList_data: ∀ (a:ByteArray),a.toList=a.data.toList:=fun a=>ByteArray.toList_eq a
theorem sameS_eq{a b:ByteArray}(h:sameS a b=true):a=b:=by
 unfold sameS at h
 have e:a.toList=b.toList:=by simpa using h
 rw[toList_data,toList_data]at e
 exact data_inj e
def TakF(f:MapF)(al:List ByteArray):Prop:= ∀ s:ByteArray,f s=if inS al s=true then some (.bool true)else none
theorem takF_none:TakF noneF []:=fun s=>rfl
theorem inS_snoc(al:List ByteArray)(v s:ByteArray):inS (al++[v]) s=(inS al s||sameS v s):=by unfold inS;simp
theorem TakF.snoc{f:MapF}{al:List ByteArray}(h:TakF f al)(v:ByteArray):TakF (putF f v (.bool true)) (al++[v]):=fun s=>by
 unfold putF
 rw[inS_snoc]
 by_cases e:s=v
 ·subst e
  rw[if_pos rfl,sameS_self]
  simp
 ·have hn:sameS v s=false:=by
   cases hq:sameS v s with
   |false=>rfl
   |true=>exact absurd (sameS_eq hq).symm e
  rw[if_neg e,h s,hn]
  simp
structure KnownF (F:Nat→Prop) (w0:World) (f:MapF) (ts:List Typ) (known:List Pat):Prop where
 has: ∀ s:ByteArray,patI known s<known.length→ ∃ cs,f s=some (.agg cs.toArray)∧TypAs F w0 (typAt ts (known.getD (patI known s) pat0).type) cs
 hasnt: ∀ s:ByteArray,¬ patI known s<known.length→f s=none
theorem knownF_none(F:Nat→Prop)(w0:World)(ts:List Typ):KnownF F w0 noneF ts []:=⟨fun s h=>absurd h (Nat.not_lt_zero _),fun s _=>rfl⟩
theorem patI_snoc(l:List Pat)(p:Pat)(s:ByteArray):patI (l++[p]) s=if patI l s<l.length then patI l s else if sameS p.var s=true then l.length else l.length+1:=by
 unfold patI
 rw[List.findIdx_append]
 by_cases h:List.findIdx (fun q=>sameS q.var s) l<l.length
 ·rw[if_pos h,if_pos h]
 ·rw[if_neg h,if_neg h,List.findIdx_singleton]
  cases sameS p.var s<;>simp[Nat.add_comm]
theorem inS_vars(l:List Pat)(s:ByteArray):inS (vars l) s=decide (patI l s<l.length):=by
 unfold inS vars patI
 rw[List.any_map,Bool.eq_iff_iff,decide_eq_true_iff,List.findIdx_lt_length,List.any_eq_true]
 rfl
theorem KnownF.snoc{F:Nat→Prop}{w0:World}{f:MapF}{ts:List Typ}{known:List Pat}(h:KnownF F w0 f ts known)(p:Pat)(hp:inS (vars known) p.var=false){cs:List Value}(hc:TypAs F w0 (typAt ts p.type) cs):KnownF F w0 (putF f p.var (.agg cs.toArray)) ts (known++[p]) where
 has:=fun s hs=>by
  unfold putF
  by_cases e:s=p.var
  ·subst e
   rw[if_pos rfl]
   have hn: ¬ patI known p.var<known.length:=by rw[inS_vars]at hp;simpa using hp
   refine⟨cs,rfl,?_⟩
   rw[patI_snoc,if_neg hn,sameS_self,if_pos rfl]
   rw[List.getD_eq_getElem?_getD,List.getElem?_append_right (Nat.le_refl _)]
   simpa using hc
  ·rw[if_neg e]
   have hk:patI known s<known.length:=by
    apply Classical.byContradiction
    intro hn
    rw[patI_snoc,if_neg hn,if_neg (fun h2=>e (sameS_eq h2).symm)]at hs
    simp at hs
   obtain⟨cs',h1,h2⟩:=h.has s hk
   refine⟨cs',h1,?_⟩
   rw[patI_snoc,if_pos hk,List.getD_eq_getElem?_getD,List.getElem?_append_left hk]
   rw[List.getD_eq_getElem?_getD]at h2
   exact h2
 hasnt:=fun s hs=>by
  unfold putF
  have hk: ¬ patI known s<known.length:=fun hk=>hs (by rw[patI_snoc,if_pos hk,List.length_append];omega)
  have e:s≠p.var:=fun e=>hs (by subst e;rw[patI_snoc,if_neg hk,sameS_self,if_pos rfl,List.length_append];simp)
  rw[if_neg e]
  exact h.hasnt s hk
theorem SlF.back{α:Type}{F:Nat→Prop}{w w0:World}{k:Nat}{c:α→List Value}{ao:Option Addr}{n cap:Nat}{xs:List α}(h:SlF F w k (plainF c) ao n cap xs)(hF: ∀ b,F b→b<w0.heap.size∧w0.heap[b]?=w.heap[b]?):SlF F w0 k (plainF c) ao n cap xs:=by
 obtain⟨h1,h2,h3,h5,h4⟩:=h
 refine⟨h1,h2,h3,h5,fun i hi=>?_⟩
 obtain⟨b,off,row,e,hFb,hlt,hr,hR⟩:=h4 i hi
 exact⟨b,off,row,e,hFb,(hF b hFb).1,rowAt_same hr (hF b hFb).2,hR⟩
theorem pat_fresh{ts:List Typ}{known:List Pat}{ahead:List ByteArray}{p:Pat}{part:Nat}(h:patE ts known ahead p part=0):inS ahead p.var=false:=by
 unfold patE at h
 by_cases h0:freeE p.var≠0
 ·rw[if_pos h0]at h;exact absurd h h0
 ·rw[if_neg h0]at h
  by_cases h1:inS ahead p.var=true
  ·rw[if_pos h1]at h;exact absurd h (by decide)
  ·simpa using h1
theorem inS_app(a b:List ByteArray)(s:ByteArray):inS (a++b) s=(inS a s||inS b s):=by unfold inS;simp
theorem apart_of{ts:List Typ}{x:Rul}(h:AllZ (notE ts x) x.nots.length):Apart x:=fun nm hw=>by
 unfold hasP at hw ⊢
 have hw' :inS (vars x.whens) nm=true:=by rw[inS_vars];exact hw
 rw[←inS_vars]
 apply Classical.byContradiction
 intro hn
 have hn' :inS (vars x.nots) nm=true:=by simpa using hn
 unfold inS vars at hn'
 rw[List.any_map,List.any_eq_true]at hn'
 obtain⟨p,hp,hs⟩:=hn'
 obtain⟨i,hi,rfl⟩:=List.mem_iff_getElem.1 hp
 have hz:=h i hi
 unfold notE at hz
 have hf:=pat_fresh hz
 rw[List.getD_eq_getElem?_getD,List.getElem?_eq_getElem hi,inS_app]at hf
 have e:=sameS_eq (show sameS x.nots[i].var nm=true from hs)
 have hf' :inS (vars x.whens) x.nots[i].var=false:=by
  have:=(Bool.or_eq_false_iff.1 hf).1
  exact this
 rw[e,hw']at hf'
 cases hf'
section
variable {P:Program} {o:Oper} {a:Act} {Q:Exit→Act→World→Prop} {K:Act→World→Prop}
variable {At:PS→World→Prop} {b:Nat} {u w:World} {s:PS} {L:List Ent}
theorem op_buildN(M:Mem At b u w s L){t e:Nat}(hT:RowT P t e 1)(n:Nat)(ps:Array (Nat×Operand))(ho:o.op= .buildSlice t n ps)(hn:0<n∧n≤100)(cs:List Value)(hf: ∀ init:Array Value,init.size=n→Instr.fill (fun i=>some (i*1,1)) init (ps.toList.map fun x=>(x.1,a.eval x.2))=some cs.toArray)
  (h: ∀ q w',Mem At b u w' s (own q cs e::L)→K (a.put o.dst (.slice (some ⟨q,0,none⟩) n n)) w'):o.wp P a w K Q:=by
 obtain⟨hu,ie,z,hie,hz,hsz,hzs,hpos,hsmall, -, -⟩:=hT.open
 have hf2:=hf ((Array.range (n*ie.size)).map (z.cells[· % z.cells.size]!)) (by simp[hsz])
 have hlow: ∀ y,(own w.heap.size cs e).blk y→w.heap.size≤y∧y<(w.alloc (.cells cs.toArray e)).heap.size:=fun y hy=>by
  have e:w.heap.size=y:=by injection hy
  subst e
  simp
 exact wp_buildSlice t e n ps ho cs.toArray ie z hu hie hz (by rw[hsz];omega) (by rw[hsz];omega) (by rw[hsz]at hf2 ⊢;simpa using hf2) (h w.heap.size _ (M.push (Joins.below_alloc1 w _) (own_firm _ _ _) hlow (fun G _=>heap_alloc_new w _)))
end
section
variable {P:Program} {dst:Option Tmp} {oty:TypeId} {pos:String} {after:Array Edge} {g:Option (Nat×Bool)} {l:List Value} {ds:List Deferred} {Q:Exit→Act→World→Prop} {K:Act→World→Prop}
variable {At:PS→World→Prop} {b:Nat} {u w:World} {s:PS} {L:List Ent} {ty:Nat}
theorem q_one(M:Mem At b u w s L){e:Nat}{k:Int}[hT:RowI P ty e 1]{F:Nat→List Value}[hd: ∀ q,PutI l dst (.slice (some ⟨q,0,none⟩) 1 1) (F q)](h: ∀ q w',Mem At b u w' s (own q [.int .i64 k] e::L)→K ⟨(F q).toArray,ds⟩ w'):OWP P ⟨dst,.buildSlice ty 1 #[(0,.const (.int .i64 k))],oty,pos,after,g⟩ ⟨l.toArray,ds⟩ w K Q:=
 owp_of (op_buildN M hT.row 1 _ rfl (by omega) [.int .i64 k] (fun init hi=>by
  obtain⟨⟨xs⟩⟩: ∃ y:Array Value,y=init:=⟨init,rfl⟩
  cases init with
  |mk l0=>
   rcases l0 with _|⟨x0,_|⟨x1,l2⟩⟩<;>simp at hi
   simp[Instr.fill,Act.eval,Value.cells]) (fun q w' M' =>by rw[(hd q).put];exact h q w' M'))
theorem q_three(M:Mem At b u w s L){e:Nat}{k1 k2 k3:Int}[hT:RowI P ty e 1]{F:Nat→List Value}[hd: ∀ q,PutI l dst (.slice (some ⟨q,0,none⟩) 3 3) (F q)](h: ∀ q w',Mem At b u w' s (own q [.int .i64 k1,.int .i64 k2,.int .i64 k3] e::L)→K ⟨(F q).toArray,ds⟩ w'):OWP P ⟨dst,.buildSlice ty 3 #[(0,.const (.int .i64 k1)),(1,.const (.int .i64 k2)),(2,.const (.int .i64 k3))],oty,pos,after,g⟩ ⟨l.toArray,ds⟩ w K Q:=
 owp_of (op_buildN M hT.row 3 _ rfl (by omega) [.int .i64 k1,.int .i64 k2,.int .i64 k3] (fun init hi=>by
  cases init with
  |mk l0=>
   rcases l0 with _|⟨x0,_|⟨x1,_|⟨x2,_|⟨x3,l4⟩⟩⟩⟩<;>simp at hi
   simp[Instr.fill,Act.eval,Value.cells]) (fun q w' M' =>by rw[(hd q).put];exact h q w' M'))
end
instance :RowI Tryz.prog 26 3 1:=⟨⟨Tryz.underlying26,⟨.int .i64 0,by kernel_rfl,rfl⟩,by kernel_rfl,by kernel_rfl,by omega,by omega⟩⟩
theorem shut_rg{n:Nat}{g:Mx}(hn:n≤12)(h:Small n g)(hk:okb n (shutF n g)=true):Rg n (shutF n g):=by
 rcases good_or h.2 with hG|⟨k,hk1,hG,hb⟩
 ·have h1:=shut_good hn h.1 hG
  have h2:=(Fs_bound h.1 n (Nat.le_refl _)).rg hn
  exact fun a b ha hb=>by rw[h1.2 a b ha hb];exact h2 a b ha hb
 ·exact absurd (okb_iff.1 hk) (shut_bad hn h.1 hk1 hG hb)
section
variable {x:Rul} {more:List Pat} {G:Mx}
theorem whole_rg(h:RulPl x)(hm:more.length≤1)(hw:wholeF x more=some G):Rg (npts x more) G:=by
 have hn:npts x more≤12:=by unfold npts;rw[List.length_append];have:=h.w3;omega
 unfold wholeF at hw
 cases hl:linkF x (x.whens++more) x.links.length with
 |none=>rw[hl]at hw;cases hw
 |some g=>
  rw[hl]at hw
  simp only at hw
  split at hw
  ·rename_i hk
   injection hw with hw
   subst hw
   exact shut_rg hn (link_small h _ _ (Nat.le_refl _) g hl) hk
  ·cases hw
theorem npts_one(n:Pat):npts x [n]=2*(x.whens.length+1):=by unfold npts;simp
theorem npts_nil:npts x []=2*x.whens.length:=by unfold npts;simp
end
theorem latF_rg{n w p:Nat}{G:Mx}(h:Rg n G)(hp:p<n)(hw:2*w≤n)(h1:1≤w): -4611686018427387904≤latF G w p∧latF G w p≤NOB:=by
 unfold latF
 exact fold_inv (fun n i=>max n (G (2*i+1) p)) (fun _ t=> -4611686018427387904≤t∧t≤NOB) w (G 1 p) (h 1 p (by omega) hp) (fun k t hk ht=>by
  have:=h (2*k+1) p (by omega) hp
  omega)
theorem leastF_rg{n w:Nat}{G:Mx}(h:Rg n G)(hw:2*w+1<n): -4611686018427387904≤leastF G w∧leastF G w≤NOB:=by
 unfold leastF
 exact fold_inv (fun n k=>min n (G (2*w+1) (2*k+1))) (fun _ t=> -4611686018427387904≤t∧t≤NOB) w NOB (by unfold NOB;omega) (fun k t hk ht=>by
  have:=h (2*w+1) (2*k+1) hw (by omega)
  omega)
section
variable {x:Rul} {j:Nat}
theorem delayF_next(h:j<x.nots.length):delayF x (j+1)=notD x (delayF x j) x.nots[j]:=by
 unfold delayF
 rw[←List.take_append_getElem h,List.foldl_append]
 rfl
theorem notD_rg(h:RulPl x){d:Int}(hd:0≤d∧d≤NOB)(n:Pat):0≤notD x d n∧notD x d n≤NOB:=by
 unfold notD
 cases hw:wholeF x [n]with
 |none=>exact hd
 |some g=>
  have h1:=leastF_rg (w:=x.whens.length) (whole_rg h (Nat.le_refl _) hw) (by rw[npts_one];omega)
  simp only
  omega
theorem delayF_rg(h:RulPl x): ∀ j,j≤x.nots.length→0≤delayF x j∧delayF x j≤NOB
 |0,_=>by show(0:Int)≤0∧(0:Int)≤NOB;unfold NOB;omega
 |j+1,hj=>by
  rw[delayF_next (by omega)]
  exact notD_rg h (delayF_rg h j (by omega)) _
theorem notD_none{n:Pat}{d:Int}(h:wholeF x [n]=none):notD x d n=d:=by unfold notD;rw[h]
theorem notD_some{n:Pat}{d:Int}{g:Mx}(hd:0≤d)(h:wholeF x [n]=some g):max d (max (leastF g x.whens.length) 0)=notD x d n:=by
 unfold notD
 rw[h]
 simp only
 omega
theorem notW_none{n:Pat}{D:Int}(h:wholeF x [n]=none):notW x D n=0:=by unfold notW;rw[h]
theorem notW_some{n:Pat}{D:Int}{g:Mx}(h:wholeF x [n]=some g):notW x D n=plusF (latF g x.whens.length (2*x.whens.length+1)) (D+1):=by unfold notW;rw[h]
end
section
variable {x:Rul} {n:Pat} {F:Nat→Prop} {w:World} {g:Mx} {z:Nat} {row:List Value}
def frmR(x:Rul)(F:Nat→Prop)(w:World)(row:List Value)(n:Pat):Prop:=match wholeF x [n]with|none=>row=[.pointer none]|some g=> ∃ z,row=[.pointer (some ⟨z,0,none⟩)]∧FrmD z (npts x [n]) g F w
theorem frmR_firm(x:Rul):Firm (frmR x):=fun F G w w' row n hs h=>by
 unfold frmR at *
 cases hq:wholeF x [n]with
 |none=>rw[hq]at h;exact h
 |some g=>
  rw[hq]at h
  obtain⟨z,h1,h2⟩:=h
  exact⟨z,h1,frmD_firm _ _ _ _ hs h2⟩
theorem frmR_none(h:wholeF x [n]=none):frmR x F w [.pointer none] n:=by unfold frmR;rw[h]
theorem frmR_some(h:wholeF x [n]=some g)(hd:FrmD z (npts x [n]) g F w):frmR x F w [.pointer (some ⟨z,0,none⟩)] n:=by unfold frmR;rw[h];exact⟨z,rfl,hd⟩
theorem frmR.nil(h:wholeF x [n]=none)(hr:frmR x F w row n):row=[.pointer none]:=by unfold frmR at hr;rw[h]at hr;exact hr
theorem frmR.at_(h:wholeF x [n]=some g)(hr:frmR x F w row n): ∃ z,row=[.pointer (some ⟨z,0,none⟩)]∧FrmD z (npts x [n]) g F w:=by unfold frmR at hr;rw[h]at hr;exact hr
end
theorem SlF.single{α:Type}{R:(Nat→Prop)→World→List Value→α→Prop}{k q:Nat}{row:List Value}{e:TypeId}{w:World}{y:α}(hO:Own q row e w)(hl:row.length=k)(hy:R (fun _=>True) w row y):SlF (fun _=>True) w k R (some ⟨q,0,none⟩) 1 1 [y]:=by
 refine⟨rfl,Nat.le_refl _,by unfold maxLen;omega,fun h=>(by cases h),fun i hi=>?_⟩
 have e0:i=0:=by simpa using hi
 subst e0
 refine⟨q,0,row,rfl,trivial,(Array.getElem?_eq_some_iff.1 hO).1,⟨hl,fun j hj=>?_⟩,hy⟩
 rw[hO.cell]
 simp[List.getD,List.getElem?_eq_getElem (show j<row.length by omega)]
section
variable {At:PS→World→Prop} {b:Nat} {u w w' :World} {s:PS} {L:List Ent} {zf n:Nat} {G:Mx}
theorem Mem.fpush(M:Mem At b u w s L)(hb:Below w.heap.size w w')(h:FrmD zf n G (from_ w.heap.size) w'):Mem At b u w' s (dat (FrmD zf n G)::L):=
 M.push hb (fun F F' w w' hsz hk _ _ h=>frmD_firm _ _ _ _ ⟨hsz,fun k hF hlt=>hk k hlt hF⟩ h) (fun z hz=>by cases hz) (fun Q hQ=>frmD_firm _ _ _ _ ⟨Nat.le_refl _,fun k hk hlt=>⟨hQ k hk hlt (fun q=>by cases q),rfl⟩⟩ h)
end
section
variable {g:Nat} {w0:World} {x:Rul} {more:List Pat} {wa la mo:Option Addr} {wn wc ln lc mn mc:Nat} {F F2 F3:Nat→Prop} {s1 s2:ByteArray} {v2 v3 v6:Value} {G:Mx}
theorem whole_no(hg:g<w0.heap.size)(X:SlF F w0 18 patF wa wn wc x.whens)(Y:SlF F2 w0 3 lnkF la ln lc x.links)(Z:SlF F3 w0 18 patF mo mn mc more)(hR:RulPl x)(hmore:more.length≤1)(hnil:mn=0→mo=none)(h:wholeF x more=none):
  Calls Tryz.prog 22 #[.agg #[.string s1,.slice wa wn wc,v2,v3,.slice la ln lc,.string s2,v6],.slice mo mn mc] w0 fun e w' => ∃ p,e= .returned (.tuple #[.pointer p,.bool false])∧Below w0.heap.size w0 w' :=
 (whole_any hg X Y Z hR hmore hnil).mono fun e w' k=>by
  rcases k.2 with⟨_,p,k2⟩|⟨G,zf,k1,_⟩
  ·exact⟨p,k2,k.1⟩
  ·rw[h]at k1;cases k1
theorem whole_yes(hg:g<w0.heap.size)(X:SlF F w0 18 patF wa wn wc x.whens)(Y:SlF F2 w0 3 lnkF la ln lc x.links)(Z:SlF F3 w0 18 patF mo mn mc more)(hR:RulPl x)(hmore:more.length≤1)(hnil:mn=0→mo=none)(h:wholeF x more=some G):
  Calls Tryz.prog 22 #[.agg #[.string s1,.slice wa wn wc,v2,v3,.slice la ln lc,.string s2,v6],.slice mo mn mc] w0 fun e w' => ∃ zf,e= .returned (.tuple #[.pointer (some ⟨zf,0,none⟩),.bool true])∧Below w0.heap.size w0 w' ∧FrmD zf (npts x more) G (from_ w0.heap.size) w' :=
 (whole_any hg X Y Z hR hmore hnil).mono fun e w' k=>by
  rcases k.2 with⟨k1,_⟩|⟨G',zf,k1,k2,k3⟩
  ·rw[h]at k1;cases k1
  ·rw[h]at k1
   injection k1 with k1
   subst k1
   exact⟨zf,k2,k.1,k3⟩
end
def PlnP(p:Pln)(c:Int)(w0:World)(e:Ending)(w' :World):Prop:=
 ∃ a1 n1 c1 a2 n2 c2 a3 n3 c3,e= .returned (.tuple #[.agg #[.int .i64 p.delay,.slice a1 n1 c1,.slice a2 n2 c2,.slice a3 n3 c3],.int .i64 c])∧Below w0.heap.size w0 w' ∧SlF (from_ w0.heap.size) w' 1 intF a1 n1 c1 p.whens∧SlF (from_ w0.heap.size) w' 1 intF a2 n2 c2 p.nots∧SlF (from_ w0.heap.size) w' 1 intF a3 n3 c3 p.manies
set_option maxHeartbeats 2000000 in
set_option maxRecDepth 100000 in
theorem optionsOf_any(F:Nat→Prop)(ao:Option Addr)(n cap:Nat)(os:List Opt)(w:World)(hO:SlF F w 3 optF ao n cap os):
  Calls Tryz.prog 60 #[.slice ao n cap] w (OptsPost os w):=by
 have NL:Hid (n=os.length):=hO.len
 have hle:=hO.le
 go_enter Tryz.func60,Tryz.ntmps60
 go_wp2_with fail
 go_loopw [4] (fun i wr=> ∃ k:Nat,k≤n∧i= .int .i64 k∧Below w.heap.size w wr∧Hid (AllZ (optAt os) k)) (fun i _=>n - (intOf i).toNat)
 case atStart=>exact⟨0,by omega,rfl,Below.refl _ _,allZ_zero _⟩
 case round=>
  obtain⟨k,hk,rfl,hbr,HA⟩:=hrel
  by_cases hlt:k<n
  ·have hkl:k<os.length:=by have:=NL.out;omega
   obtain⟨b,off,row,hix,hblt,hrow,hrr⟩:=(hO.below optF_firm hbr).toR.index (P:=Tryz.prog) Tryz.underlying95 size_option (i:=k) hkl
   obtain rfl:row=optC os[k]:=hrr
   obtain⟨c0,c1,c2⟩:=hrow.three
   have hk1:(k:Int)<n:=by omega
   go_wp2_with fail
   refine(optFault_any _ _ _ _).mono ?_
   rintro e w1 ⟨rfl,hb1⟩
   have hbr1:Below w.heap.size w w1:=hbr.trans (hb1.mono hbr.size)
   have HE:Hid (optAt os k=optE os[k].rel os[k].lo os[k].hi):=by show _=_;unfold optAt;simp[List.getD,List.getElem?_eq_getElem hkl]
   by_cases hz:optE os[k].rel os[k].lo os[k].hi=0
   ·have hA2:Hid (AllZ (optAt os) (k+1)):=allZ_succ HA.out (by rw[HE.out];exact hz)
    go_wp2
    go_roundw
    case rel=>exact⟨k+1,by omega,by go_num,hbr1,hA2⟩
    case measure=>simp[intOf];omega
   ·have hf:optsE os=optE os[k].rel os[k].lo os[k].hi:=by
     unfold optsE
     rw[firstN_at HA.out hkl (by rw[HE.out];exact hz),HE.out]
    have hzb:(optE os[k].rel os[k].lo os[k].hi !=0)=true:=by simpa using hz
    have hz2: ¬ optsE os=0:=by rw[hf];exact hz
    have HF:=Lib.hid hf
    clear hf
    generalize optE os[k].rel os[k].lo os[k].hi=ee at *
    go_wp2
    go_ret2
    refine⟨none,0,0,[],?_,by rw[if_neg hz2],hbr1,SlF.nil⟩
    rw[if_neg hz2,HF.out]
    rfl
  ·obtain rfl:k=n:=by omega
   have hz:optsE os=0:=by unfold optsE;rw[←NL.out];exact firstN_zero HA.out
   have HZ:=Lib.hid hz
   have OKs:Hid (∀ j,j<k→optAt os j=0):=HA.out
   obtain⟨wl,hwl⟩: ∃ wl:World,Hid (wl=wr):=⟨_,rfl⟩
   clear hz HA
   go_wp2_with fail
   go_loopw [6,7] (fun o i wr=> ∃ q:Nat,q≤k∧i= .int .i64 q∧Below w.heap.size w wr∧ ∃ ao2 n2 cap2,o= .slice ao2 n2 cap2∧Hid (SlF (from_ w.heap.size) wr 1 lineF ao2 n2 cap2 (accL os q))∧Hid (accL os q=[]→ao2=none)) (fun _ i _=>k - (intOf i).toNat)
   case atStart=>exact⟨0,by omega,rfl,hbr,none,0,0,rfl,SlF.nil,fun _=>rfl⟩
   case round=>
    clear hbr hwl
    obtain⟨q,hq,rfl,hbr,ao2,n2,cap2,rfl,HS,HN⟩:=hrel
    by_cases hlt:q<k
    ·have hql:q<os.length:=by have:=NL.out;omega
     obtain⟨b,off,row,hix,hblt,hrow,hrr⟩:=(hO.below optF_firm hbr).toR.index (P:=Tryz.prog) Tryz.underlying95 size_option (i:=q) hql
     obtain rfl:row=optC os[q]:=hrr
     obtain⟨c0,c1,c2⟩:=hrow.three
     have hq1:(q:Int)<k:=by omega
     have hoq:optE os[q].rel os[q].lo os[q].hi=0:=by
      have:=OKs.out q hlt
      unfold optAt at this
      simpa[List.getD,List.getElem?_eq_getElem hql]using this
     obtain⟨v1,v2,v3⟩:=optE_zero hoq
     have HX:Hid (accL os (q+1)=stepL (accL os q) os[q]):=accL_next os q hql
     have hle2:=HS.out.le
     have hsr:=hbr.size
     go_wp2_with fail
     refine(bounds_any _ _ _ _ v1 v2 v3).mono ?_
     rintro e w1 h1
     have HOP:Hid (OnePost (optL os[q].rel os[q].lo os[q].hi) wr e w1):=h1
     clear h1 hrow hix c0 c1 c2 hoq v1 v2 v3
     rcases HOP.out with⟨hn,rfl,hb1⟩|⟨l,ao3,cap3,hn,hl4,rfl,hb1,hS3⟩
     ·have hb2:Below wr.heap.size wr w1:=hb1
      have HS2:Hid (SlF (from_ w.heap.size) w1 1 lineF ao2 n2 cap2 (accL os (q+1))):=by
       show SlF _ _ _ _ _ _ _ _
       rw[HX.out]
       unfold stepL
       rw[hn]
       exact HS.out.below lineF_firm hb2
      have HN2:Hid (accL os (q+1)=[]→ao2=none):=by
       show _→_
       rw[HX.out]
       unfold stepL
       rw[hn]
       exact HN.out
      clear HS HN HX HOP hn
      go_wp2
      go_roundw
      case rel=>exact⟨q+1,by omega,by go_num,hbr.trans (hb2.mono hsr),_,_,_,rfl,HS2,HN2⟩
      case measure=>simp[intOf];omega
     ·have hb2:Below wr.heap.size wr w1:=hb1
      have hs2:=hb2.size
      have hS4:SlF (from_ w.heap.size) w1 1 lineF ao3 4 cap3 l:=hS3.wide lineF_firm (fun b hb _=>by unfold from_ at *;omega)
      have hl0:l≠[]:=fun e=>by rw[e]at hl4;cases hl4
      cases hacc:accL os q with
      |nil=>
       have hn2:n2=0:=by have:=HS.out.len;rw[hacc]at this;exact this
       have hao2:ao2=none:=HN.out hacc
       subst hn2 hao2
       have hcap2:cap2=0:=HS.out.2.2.2.1 rfl
       subst hcap2
       have HS2:Hid (SlF (from_ w.heap.size) w1 1 lineF ao3 4 cap3 (accL os (q+1))):=by
        show SlF _ _ _ _ _ _ _ _
        rw[HX.out]
        unfold stepL
        rw[hn,hacc]
        exact hS4
       have HN2:Hid (accL os (q+1)=[]→ao3=none):=by
        show _→_
        rw[HX.out]
        unfold stepL
        rw[hn,hacc]
        exact fun e=>absurd e hl0
       clear HS HN HX HOP hn hS3 hS4 hacc hl4
       go_wp2
       go_roundw
       case rel=>exact⟨q+1,by omega,by go_num,hbr.trans (hb2.mono hsr),_,_,_,rfl,HS2,HN2⟩
       case measure=>simp[intOf];omega
      |cons x xs=>
       have hne:accL os q≠[]:=by rw[hacc];exact List.cons_ne_nil _ _
       have hie:(accL os q).isEmpty=false:=by rw[hacc];rfl
       obtain⟨b5,o5,e5⟩:=slF_some HS.out hne
       subst e5
       have hS5:=HS.out.below lineF_firm hb2
       have hn5: ¬ n2=0:=fun e=>hne (List.eq_nil_of_length_eq_zero (by rw[←HS.out.len,e]))
       have HXX:Hid (accL os (q+1)=joinM max (accL os q) l):=by
        show _=_
        rw[HX.out]
        unfold stepL
        rw[hn,hie]
        rfl
       have HS5:=Lib.hid hS5
       have HS4:=Lib.hid hS4
       have HNE:=Lib.hid hne
       clear HS HN HX HOP hn hS3 hS4 hacc hl4 hS5 hne hie
       go_wp2_with fail
       refine(merged_more _ _ _ n2 cap2 (accL os q) ao3 4 cap3 l w1 HS5.out HS4.out HNE.out).mono ?_
       rintro e w3 ⟨ao6,n6,cap6,rfl,hb6,hS6,hN6⟩
       have HS6:Hid (SlF (from_ w.heap.size) w3 1 lineF ao6 n6 cap6 (accL os (q+1))):=by
        show SlF _ _ _ _ _ _ _ _
        rw[HXX.out]
        exact hS6.wide lineF_firm (fun b hb _=>by unfold from_ at *;omega)
       have HN6:Hid (accL os (q+1)=[]→ao6=none):=by
        show _→_
        rw[HXX.out]
        exact hN6
       clear hS6 hN6
       go_wp2
       go_roundw
       case rel=>exact⟨q+1,by omega,by go_num,(hbr.trans (hb2.mono hsr)).trans (hb6.mono (by omega)),_,_,_,rfl,HS6,HN6⟩
       case measure=>simp[intOf];omega
    ·obtain rfl:q=k:=by omega
     rw[NL.out]at HS HN
     have hle2:=HS.out.le
     cases hacc:accL os os.length with
     |nil=>
      have hn2:n2=0:=by have:=HS.out.len;rw[hacc]at this;exact this
      have hao2:ao2=none:=HN.out hacc
      subst hn2 hao2
      have hcap2:cap2=0:=HS.out.2.2.2.1 rfl
      subst hcap2
      have HC:=Lib.hid hacc
      clear hacc HS HN
      go_wp2
      go_ret2
      refine⟨none,0,0,[],?_,by rw[if_pos HZ.out,HC.out],hbr,SlF.nil⟩
      rw[if_pos HZ.out]
      rfl
     |cons x xs=>
      have hne:accL os os.length≠[]:=by rw[hacc];exact List.cons_ne_nil _ _
      obtain⟨b5,o5,e5⟩:=slF_some HS.out hne
      subst e5
      have hn5: ¬ n2=0:=fun e=>hne (List.eq_nil_of_length_eq_zero (by rw[←HS.out.len,e]))
      have HC:Hid ((accL os os.length).isEmpty=false):=by show _=_;rw[hacc];rfl
      clear hacc HN hne
      go_wp2
      go_ret2
      refine⟨_,n2,cap2,accL os os.length,?_,by rw[if_pos HZ.out],hbr,HS.out⟩
      rw[if_pos HZ.out,HC.out]
      rfl
def patO(w0:World):(Nat→Prop)→World→List Value→Pat→Prop:=fun _ _ row p=>patF (fun _=>True) w0 row p
theorem patO_firm(w0:World):Firm (patO w0):=fun _ _ _ _ _ _ _ h=>h
theorem patO_live{F:Nat→Prop}{w0 w:World}{a:Option Addr}{n c:Nat}{l:List Pat}(hb:Below w0.heap.size w0 w)(h:SlF F w 18 (patO w0) a n c l):SlF (fun _=>True) w 18 patF a n c l:=by
 obtain⟨h1,h2,h3,h4,h5⟩:=h
 refine⟨h1,h2,h3,h4,fun i hi=>?_⟩
 obtain⟨b,off,row,e,hF,hlt,hr,hx⟩:=h5 i hi
 exact⟨b,off,row,e,trivial,hlt,hr,patF_firm _ _ _ _ _ _ ⟨hb.size,fun k _ hlt=>⟨trivial,hb.block k hlt⟩⟩ hx⟩
theorem patF_all{F:Nat→Prop}{w:World}{row:List Value}{p:Pat}(h:patF F w row p):patF (fun _=>True) w row p:=patF_firm _ _ _ _ _ _ (Same.wide fun _ _ _=>trivial) h
def RowsX(F:Nat→Prop)(w:World)(A off k n:Nat)(rows:Nat→List Value):Prop:= ∀ i,i<n→F A∧A<w.heap.size∧w.rangeAt A (off+i*k) (rows i)
theorem rowsX_firm{A off k n:Nat}{rows:Nat→List Value}:FirmD (fun F w=>RowsX F w A off k n rows):=fun F G w w' hs h i hi=>by
 obtain⟨h1,h2,h3⟩:=h i hi
 have h4:=hs.2 A h1 h2
 exact⟨h4.1,Nat.lt_of_lt_of_le h2 hs.1,fun j v hj=>(World.cell?_of_block (w:=w) (a:=⟨A,off+i*k+j,none⟩) h4.2).trans (h3 j v hj)⟩
theorem rows_of{α:Type}{F:Nat→Prop}{k:Nat}{R:(Nat→Prop)→World→List Value→α→Prop}{ao:Option Addr}{n cap:Nat}{xs:List α}{w:World}{P:Program}{t e:Nat}(h:SlF F w k R ao n cap xs)(ht:P.underlying t=some (.slice e))(hs:SizeIs P e k)(hn:0<n):
  ∃ A off rows,(∀ i (hi:i<xs.length),R F w (rows i) xs[i])∧(∀ i,i<n→ ∀ wx,(Instr.indexAt t (.slice ao n cap) (.int .i64 i)).run P wx= .ok (.pointer (some ⟨A,off+i*k,none⟩)) wx)∧RowsX F w A off k n rows:=by
 obtain⟨h1,h2,h3,h5,h4⟩:=h
 obtain⟨A,off,row0,e0, -⟩:=h4 0 (by omega)
 subst e0
 have key: ∀ i,∃ row:List Value,(∀ hi:i<xs.length,R F w row xs[i])∧(i<n→F A∧A<w.heap.size∧w.rangeAt A (off+i*k) row):=fun i=>by
  by_cases hi:i<xs.length
  ·obtain⟨b,o,row,e1,hF,hlt,hr,hR⟩:=h4 i hi
   injection e1 with e1
   injection e1 with e1 e2
   subst e1 e2
   exact⟨row,fun _=>hR,fun _=>⟨hF,hlt,hr.range⟩⟩
  ·exact⟨[],fun h=>absurd h hi,fun h=>absurd h (by omega)⟩
 obtain⟨rows,hk⟩:=Classical.axiomOfChoice key
 refine⟨A,off,rows,fun i hi=>(hk i).1 hi,fun i hi wx=>?_,fun i hi=>(hk i).2 hi⟩
 have hin:(i:Int)<n:=by omega
 have hsw:=hs wx
 simp[Instr.indexAt,run_underlying ht,asIntOf,hsw,Addr.add]
 rw[if_pos (by omega)]
 by_cases e:i*k=0
 ·rw[if_pos e,e];rfl
 ·rw[if_neg e]
section
variable {At:PS→World→Prop} {b:Nat} {u w:World} {s:PS} {L:List Ent} {A off k n:Nat} {rows:Nat→List Value}
theorem Mem.rrow{i r:Nat}(M:Mem At b u w s L)(hi:L[i]?=some (dat (fun F w=>RowsX F w A off k n rows)))(hr:r<n):w.rangeAt A (off+r*k) (rows r):=((M.dat_ hi) r hr).2.2
end
def MatD(ao:Option Addr)(n cap:Nat)(G:Mx)(F:Nat→Prop)(w:World):Prop:= ∃ A off ra rc B o,LinI ao cap A off n ra rc B o∧LinX F w A off n ra rc B o G
section
variable {F:Nat→Prop} {w:World} {n cap:Nat} {ao:Option Addr} {G G' :Mx} {gs:Nat→Nat}
theorem matD_firm:FirmD (MatD ao n cap G):=fun F F' w w' hs ⟨A,off,ra,rc,B,o,h1,h2⟩=>⟨A,off,ra,rc,B,o,h1,h2.same hs⟩
theorem MatD.lines(h:MatD ao n cap G F w):LinesAt w ao n cap G:=by
 obtain⟨A,off,ra,rc,B,o,h1,h2⟩:=h
 exact h2.lines h1
theorem Grid.matD(h:Grid F w ao n cap gs G)(hn:n≤1000)(h0:0<n)(e:EqM n G G'):MatD ao n cap G' F w:=by
 obtain⟨A,off,ra,rc,B,o,h1,h2⟩:=lin_of (h.toF hn) gridL_at h0
 exact⟨A,off,ra,rc,B,o,h1,h2.congr fun r c hr hc=>by rw[at2_gridL hr hc];exact e r c hr hc⟩
end
section
variable {At:PS→World→Prop} {b:Nat} {u w w' :World} {s:PS} {L:List Ent} {ao:Option Addr} {n cap:Nat} {G:Mx}
theorem Mem.mpush(M:Mem At b u w s L)(hb:Below w.heap.size w w')(h:MatD ao n cap G (from_ w.heap.size) w'):Mem At b u w' s (dat (MatD ao n cap G)::L):=
 M.push hb (fun F F' w w' hsz hk _ _ h=>matD_firm _ _ _ _ ⟨hsz,fun k hF hlt=>hk k hlt hF⟩ h) (fun z hz=>by cases hz) (fun Q hQ=>matD_firm _ _ _ _ ⟨Nat.le_refl _,fun k hk hlt=>⟨hQ k hk hlt (fun q=>by cases q),rfl⟩⟩ h)
end
section
variable {n m M:Nat} {wq nn:Nat→Int} {i j r c p:Nat} {G:Mx} {v:Int}
theorem winI_pair:setB (winI p m wq nn i j) (2*p) (2*p+1) 0 r c=winI (p+1) m wq nn i j r c:=by
 unfold setB winI
 by_cases e:r=2*p∧c=2*p+1
 ·rw[if_pos e,if_neg (by omega),if_pos (by omega)]
 ·rw[if_neg e]
  by_cases e1:r=c
  ·rw[if_pos e1,if_pos e1]
  ·rw[if_neg e1,if_neg e1]
   by_cases e2:r % 2=0∧c=r+1∧r / 2<p
   ·rw[if_pos e2,if_pos (by omega)]
   ·have e3: ¬ (r % 2=0∧c=r+1∧r / 2<p+1):=by omega
    rw[if_neg e2,if_neg e3]
theorem winI_far{i' j' :Nat}(h:m≤i)(h' :m≤i'):winI n m wq nn i j r c=winI n m wq nn i' j' r c:=winI_same fun _ _ _ _ hc _=>⟨fun _=> .inl (by omega),fun _=> .inl (by omega)⟩
theorem winI_free:winI 0 m wq nn 0 0=freeG:=by
 funext r c
 unfold winI freeG
 by_cases e:r=c
 ·rw[if_pos e,if_pos e]
 ·rw[if_neg e,if_neg e,if_neg (by omega),if_neg (by omega)]
theorem win_pairM(h:EqM M G (winI p m wq nn i j)):EqM M (setB G (2*p) (2*p+1) 0) (winI (p+1) m wq nn i j):=fun r c hr hc=>by
 rw[←winI_pair]
 unfold setB
 rw[h r c hr hc]
theorem win_putM(h:EqM M G (winI n m wq nn i j))(hw:wq i=1)(hij:j≠i)(hi:i<m)(hj:j<m)(hv:nn i=v)(hn:v≤NOB):EqM M (setB G (2*j+1) (2*i+1) v) (winI n m wq nn i (j+1)):=fun r c hr hc=>by
 rw[←winI_step hw hij hi hj (by rw[hv];exact hn),winI_at hij hi hj,hv,Int.min_eq_right hn]
 unfold setB
 rw[h r c hr hc]
end
theorem celL_lt{o g:Mx}{a b r c:Nat}(h:o r c<g (atG a b r) (atG a b c)):celL o a b r g c=setB g (atG a b r) (atG a b c) (o r c):=by
 unfold celL
 rw[Int.min_eq_right (Int.le_of_lt h)]
theorem celL_ge{o g:Mx}{a b r c:Nat}(h: ¬ o r c<g (atG a b r) (atG a b c)):celL o a b r g c=g:=by
 unfold celL
 exact setB_same (Int.min_eq_left (Int.not_lt.1 h))
theorem tight_whole{n:Nat}{G gj:Mx}(hn:n≤12)(hS:Small n gj)(hE:EqM n G gj):
  (okb n (shutF n gj)=true∧ ∃ d,tight n (n+1) (at2 (gridL n G))=some d∧EqM n d (shutF n gj))∨(okb n (shutF n gj)=false∧tight n (n+1) (at2 (gridL n G))=none):=by
 have e:EqM n (at2 (gridL n G)) gj:=fun a b ha hb=>(eq_grid n G a b ha hb).trans (hE a b ha hb)
 have hS2:=small_eq e hS
 have hk:=okb_congr (shut_congr e)
 rcases close_same hn hS2.1 hS2.2 with⟨h1,d,h2,h3⟩|⟨h1,h2⟩
 ·left
  exact⟨by rw[←hk];exact okb_iff.2 h1,d,h2,fun a b ha hb=>(h3 a b ha hb).trans (shut_congr e a b ha hb)⟩
 ·right
  refine⟨?_,h2⟩
  rw[←hk]
  cases hq:okb n (shutF n (at2 (gridL n G)))with
  |false=>rfl
  |true=>exact absurd (okb_iff.1 hq) h1
theorem getD_app{w n l:List Pat}{i:Nat}(h:w++n=l)(hi:i<w.length)(hl:i<l.length):w.getD i pat0=l[i]:=by
 subst h
 rw[List.getElem_append_left hi]
 simp[List.getD,List.getElem?_eq_getElem hi]
theorem getD_mem{w:List Pat}{i:Nat}(hi:i<w.length):w.getD i pat0∈w:=by
 simp[List.getD,List.getElem?_eq_getElem hi]
def RmP(x:Rul)(nots:List Pat)(w0:World)(e:Ending)(w' :World):Prop:=
 Below w0.heap.size w0 w' ∧((wholeF x nots=none∧ ∃ v,e= .returned (.tuple #[v,.bool false]))∨ ∃ G ao cap,wholeF x nots=some G∧e= .returned (.tuple #[.slice ao (npts x nots) cap,.bool true])∧MatD ao (npts x nots) cap G (from_ w0.heap.size) w')
end Go.Proofs.YtncmghnhfipklaaGreatDoor
