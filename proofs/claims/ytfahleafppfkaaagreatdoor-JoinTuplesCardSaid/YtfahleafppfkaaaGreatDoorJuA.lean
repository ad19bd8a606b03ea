/-
  What was left out of the elder texts; what this law wants of those about firing.
-/
import Derived.Test.YtfahleafppfkaaaGreatDoorWf30
import Derived.Test.YtfahleafppfkaaaGreatDoorWf24
import Derived.Test.YtfahleafppfkaaaGreatDoorWf23
import Derived.Test.YtfahleafppfkaaaGreatDoorWf36
namespace Go.Proofs.YtfahleafppfkaaaGreatDoor
open Go.RowKit
set_option linter.unusedVariables false
set_option linter.unusedSimpArgs false
section
variable {b : Nat} {ao : Option Addr} {n cap : Nat} {s : PS} {u w : World} {L : List Ent} {At : PS → World → Prop} {x : Rul} {v1 v2 v3 v4 v6 : Value}
theorem slc_slice {α : Type} {B e k i : Nat} {R : (Nat → Prop) → World → List Value → α → Prop} {v : Value} {xs : List α} (M : Mem At b u w s L) (hi : L[i]? = some (slc B e k R v xs)) : ∃ ra rc, v = .slice ra xs.length rc :=
  OwnF.slice (show OwnF (free_ u w L) B w e k R v xs from M.say _ (Mem.of_get hi))
end
section
variable {P : Program} {l : List Oper} {Q : Exit → Act → World → Prop} {md : Region.Mode} {fuel : Nat} {listed : Array Bool} {a : Act} {w : World} {o1 o2 o3 o4 o5 o6 : Oper}
theorem rd4 (i1 i2 i3 i4 : Nat) (hr : Region.ready md l.toArray listed = [i1, i2, i3, i4]) (h1 : l[i1]? = some o1) (g1 : o1.guard = none) (k1 : RdO P l Q md fuel listed a w i1 o1) (h2 : l[i2]? = some o2) (g2 : o2.guard = none) (k2 : RdO P l Q md fuel listed a w i2 o2) (h3 : l[i3]? = some o3) (g3 : o3.guard = none) (k3 : RdO P l Q md fuel listed a w i3 o3) (h4 : l[i4]? = some o4) (g4 : o4.guard = none) (k4 : RdO P l Q md fuel listed a w i4 o4) : wpAny P md l.toArray Q (fuel + 1) listed a w :=
  wpAny_ready hr (by simp) (ready_cons (get_l h1) g1 k1 (ready_cons (get_l h2) g2 k2 (ready_cons (get_l h3) g3 k3 (ready_cons (get_l h4) g4 k4 AllReady.nil))))
end
section
variable {P : Program} {ops : Array Oper} {opsl : List Oper} {dst : Option Tmp} {oty : TypeId} {pos : String} {after : Array Edge} {l l' : List Value} {ds : List Deferred} {rest : List Oper} {Q : Exit → Act → World → Prop}
variable {At : PS → World → Prop} {b : Nat} {u w : World} {s : PS} {L L' : List Ent} {ty j j' z p m : Nat} {v : Value} {cs vs : List Value}
theorem wCg {c o : Nat} (hc : w.cell? ⟨c, o, none⟩ = some v) {gi : Nat} {want : Bool} {t : Tmp} [ho : NthO opsl gi t] [hv : Nth l t (.bool want)] [hx : Nth l j (.pointer (some ⟨c, o, none⟩))] [hT : OneI P ty] [hd : PutI l dst v l'] (h : wpList P opsl.toArray Q rest ⟨l'.toArray, ds⟩ w) : wpList P opsl.toArray Q (⟨dst, .load ty (.tmp j), oty, pos, after, some (gi, want)⟩ :: rest) ⟨l.toArray, ds⟩ w := wg_ (q_cellat hc h)
end
end Go.Proofs.YtfahleafppfkaaaGreatDoor

/-
  Closures of watch, and searches with them. Printed by wac.py.
-/
namespace Go.Proofs.YtfahleafppfkaaaGreatDoor
open Go.RowKit
set_option linter.unusedVariables false
set_option linter.unusedSimpArgs false
section
variable {P:Program} {dst:Option Tmp} {oty:TypeId} {pos:String} {after:Array Edge} {g:Option (Nat×Bool)} {l:List Value} {ds:List Deferred} {Q:Exit→Act→World→Prop} {K:Act→World→Prop}
variable {At:PS→World→Prop} {b:Nat} {u w:World} {s:PS} {L:List Ent} {ty j:Nat}
theorem cells_one{v:Value}(h:v.oneCell' =true):v.cells= #[v]:=by cases v<;>first|rfl|(simp[Value.oneCell']at h)
theorem q_boxv{v:Value}(M:Mem At b u w s L)[hy:Nth l j v][h1:OneC v]{F:Nat→List Value}[hd: ∀ z,PutI l dst (.pointer (some ⟨z,0,none⟩)) (F z)](h: ∀ z w',Mem At b u w' s (own z [v] ty::L)→K ⟨(F z).toArray,ds⟩ w'):OWP P ⟨dst,.box ty (.tmp j),oty,pos,after,g⟩ ⟨l.toArray,ds⟩ w K Q:=by
 refine owp_of ?_
 have hy' :=eval_tmp (ds:=ds) hy.nth
 unfold Oper.wp execOp
 simp only[Instr.box,hy',Sem.run_bind,newVar,newRow,newObj,cells_one h1.one]
 have hlow: ∀ y,(own w.heap.size [v] ty).blk=some y→w.heap.size≤y∧y<(w.alloc (.cells [v].toArray ty)).heap.size:=fun y hy=>by
  have e:w.heap.size=y:=by injection hy
  subst e
  simp
 have key:=h w.heap.size (w.alloc (.cells [v].toArray ty)) (M.push (e:=own w.heap.size [v] ty) (Joins.below_alloc1 w _) (own_firm _ _ _) hlow (fun G _=>heap_alloc_new w (.cells [v].toArray ty)))
 rw[←(hd w.heap.size).put]at key
 exact key
class EvsI (l:List Value) (ys:List Operand) (vs:outParam (List Value)):Prop where
 evs: ∀ ds,ys.map (Act.eval ⟨l.toArray,ds⟩)=vs
instance {l:List Value}:EvsI l [] []:=⟨fun _=>rfl⟩
instance {l:List Value}{y:Operand}{ys:List Operand}{v:Value}{vs:List Value}[h:EvI l y v][h' :EvsI l ys vs]:EvsI l (y::ys) (v::vs):=⟨fun ds=>by rw[List.map_cons,h.ev,h'.evs]⟩
theorem q_funcs(fn:Fn){ys:List Operand}{vs:List Value}[hc:EvsI l ys vs]{l' :List Value}[hd:PutI l dst (.func fn #[] vs.toArray) l'](h:K ⟨l'.toArray,ds⟩ w):OWP P ⟨dst,.makeFunc fn #[] ys.toArray,oty,pos,after,g⟩ ⟨l.toArray,ds⟩ w K Q:=by
 refine owp_of ?_
 have hk:K (Act.put ⟨l.toArray,ds⟩ dst (.func fn #[] vs.toArray)) w:=by rw[hd.put];exact h
 unfold Oper.wp execOp
 simp only[Instr.makeFunc,Sem.run_bind,Sem.run_pure,Result.andThen_ok,List.map_toArray,List.map_nil,hc.evs]
 exact hk
theorem Mem.cells_{i z:Nat}{cs:List Value}{t:TypeId}(M:Mem At b u w s L)(hi:L[i]?=some (own z cs t)):w.rangeAt z 0 cs:=(M.own_ (Mem.of_get hi)).range
end
theorem keep_cell{w0:World}{z o:Nat}{v:Value}(hz:z<w0.heap.size)(h:w0.cell? ⟨z,o,none⟩=some v): ∀ wx,Below w0.heap.size w0 wx→wx.cell? ⟨z,o,none⟩=some v:=fun wx hb=>by rw[(bcell hb).1 _ _ hz];exact h
theorem keep_range{w0:World}{z o:Nat}{cs:List Value}(hz:z<w0.heap.size)(h:w0.rangeAt z o cs): ∀ wx,Below w0.heap.size w0 wx→wx.rangeAt z o cs:=fun wx hb j x hj=>by rw[(bcell hb).1 _ _ hz];exact h j x hj
theorem any_idx{α:Type}{l:List α}{pr:α→Bool}:decide ((0:Int)≤placeV (l.findIdx pr) l.length)=l.any pr:=by
 rw[Bool.eq_iff_iff,decide_eq_true_iff,List.any_eq_true,←List.findIdx_lt_length]
 unfold placeV
 by_cases h:l.findIdx pr<l.length
 ·rw[if_pos h];simp[h]
 ·rw[if_neg h];simp[h]
section
variable {g:Nat} {F:Nat→Prop} {ao:Option Addr} {n cap:Nat} {w0:World}
end
end Go.Proofs.YtfahleafppfkaaaGreatDoor
/-
  The walks of watch: a not's links. Printed by wal.py.
-/
namespace Go.Proofs.YtfahleafppfkaaaGreatDoor
open Go.RowKit
set_option linter.unusedVariables false
set_option linter.unusedSimpArgs false
structure GA where
 a1:Option Addr
 n1:Nat
 c1:Nat
 a2:Option Addr
 n2:Nat
 c2:Nat
 a3:Option Addr
 n3:Nat
 c3:Nat
 a4:Option Addr
 n4:Nat
 c4:Nat
structure Grd (F:Nat→Prop) (w:World) (zg:Nat) (v:GA) (b:Bok) (rule:Nat) (R:Rul) (tuple all:List Eve):Prop where
 lt:zg<w.heap.size
 cells:w.rangeAt zg 0 [.slice v.a1 v.n1 v.c1,.slice v.a2 v.n2 v.c2,.int .i64 rule,.slice v.a3 v.n3 v.c3,.slice v.a4 v.n4 v.c4]
 env:Env F w
 far: ∀ b,F b→b<w.heap.size
 types:SlF F w 2 typF v.a1 v.n1 v.c1 b.types
 rules:SlF F w 7 rulF v.a2 v.n2 v.c2 b.rules
 tup:SlF (under w.heap.size) w 5 eveF v.a3 v.n3 v.c3 tuple
 alls:SlF (under w.heap.size) w 5 eveF v.a4 v.n4 v.c4 all
 okT: ∀ t∈b.types,typOk t
 okR: ∀ x∈b.rules,RulFit x
 okE: ∀ x∈b.rules,x.etype.size≤maxLen
 okU: ∀ x∈tuple,eveOk x
 okA: ∀ x∈all,eveOk x
 fewA:all.length≤120
 book:bookE b=0
 is:b.rules[rule]?=some R
 may:Tup b R tuple
 evU: ∀ x∈tuple,eventE b.types x.e x.vals=0
 evA: ∀ x∈all,eventE b.types x.e x.vals=0
section
variable {F:Nat→Prop} {w0:World} {zg:Nat} {v:GA} {b:Bok} {rule:Nat} {R:Rul} {tuple all:List Eve}
theorem Grd.below{w' :World}(h:Grd F w0 zg v b rule R tuple all)(hb:Below w0.heap.size w0 w'):Grd F w' zg v b rule R tuple all:=
 {h with
  lt:=Nat.lt_of_lt_of_le h.lt hb.size
  cells:=keep_range h.lt h.cells w' hb
  env:=h.env.below hb
  far:=fun k hk=>Nat.lt_of_lt_of_le (h.far k hk) hb.size
  types:=h.types.below typF_firm hb
  rules:=h.rules.below rulF_firm hb
  tup:=(h.tup.below eveF_firm hb).wide eveF_firm (fun b hb2 _=>Nat.lt_of_lt_of_le hb2 hb.size)
  alls:=(h.alls.below eveF_firm hb).wide eveF_firm (fun b hb2 _=>Nat.lt_of_lt_of_le hb2 hb.size)}
theorem Grd.rl(h:Grd F w0 zg v b rule R tuple all):rule<b.rules.length∧ ∀ hr:rule<b.rules.length,b.rules[rule]=R:=by
 obtain⟨h1,h2⟩:=List.getElem?_eq_some_iff.1 h.is
 exact⟨h1,fun _=>h2⟩
theorem Grd.zero(h:Grd F w0 zg v b rule R tuple all):ruleE b.types R=0:=by
 obtain⟨h1,h2⟩:=h.rl
 have:=rule_zero h.book h1
 rwa[h2 h1]at this
theorem Grd.few(h:Grd F w0 zg v b rule R tuple all):R.whens.length≤3∧R.nots.length≤2∧R.manies.length≤2∧R.links.length≤6:=by
 have hz:=h.zero
 unfold ruleE at hz
 by_cases h1:freeE R.name≠0
 ·rw[if_pos h1]at hz;exact absurd hz h1
 rw[if_neg h1]at hz
 by_cases h2:sizeB R=true
 ·rw[if_pos h2]at hz;exact absurd hz (by decide)
 simp[sizeB]at h2
 omega
theorem Grd.rule0(h:Grd F w0 zg v b rule R tuple all): ∃ (cr or:Nat) (b1:Option Addr) (m1 e1:Nat) (b2:Option Addr) (m2 e2:Nat) (b3:Option Addr) (m3 e3:Nat) (b4:Option Addr) (m4 e4:Nat) (b6:Option Addr) (m6 e6:Nat),
  (∀ wx,(Instr.indexAt 23 (.slice v.a2 v.n2 v.c2) (.int .i64 rule)).run Tryz.prog wx= .ok (.pointer (some ⟨cr,or,none⟩)) wx)∧
  (∀ wx,Below w0.heap.size w0 wx→wx.rangeAt cr or [.string R.name,.slice b1 m1 e1,.slice b2 m2 e2,.slice b3 m3 e3,.slice b4 m4 e4,.string R.etype,.slice b6 m6 e6])∧
  SlF F w0 18 patF b1 m1 e1 R.whens∧SlF F w0 18 patF b2 m2 e2 R.nots∧SlF F w0 20 manF b3 m3 e3 R.manies∧SlF F w0 3 lnkF b4 m4 e4 R.links:=by
 obtain⟨h1,h2⟩:=h.rl
 obtain⟨cr,or,rowr,hixr, -,hrrr,hwr⟩:=SlF.rowAt (P:=Tryz.prog) h.rules rulF_firm Tryz.underlying23 size_rul (i:=rule) h1
 obtain⟨b1,m1,e1,b2,m2,e2,b3,m3,e3,b4,m4,e4,b6,m6,e6,er,Y1,Y2,Y3,Y4, -⟩:=hrrr
 subst er
 rw[h2 h1]at Y1 Y2 Y3 Y4 hwr
 exact⟨cr,or,b1,m1,e1,b2,m2,e2,b3,m3,e3,b4,m4,e4,b6,m6,e6,hixr,fun wx hb=>(hwr wx hb).1,Y1,Y2,Y3,Y4⟩
end
end Go.Proofs.YtfahleafppfkaaaGreatDoor
/-
  The walks of the reference's watch: links, the latest end. Printed by war.py.
-/
namespace Go.Proofs.YtfahleafppfkaaaGreatDoor
open Go.RowKit
set_option linter.unusedVariables false
set_option linter.unusedSimpArgs false
section
variable {S:Nat→Prop} {w0:World}
set_option maxRecDepth 8000 in
set_option maxHeartbeats 8000000 in
theorem linkHolds_any(hg: ∃ g,g<w0.heap.size)(k:Lnk)(so:Option Addr)(sn sc:Nat)(hO:SlF S w0 3 (plainF optC) so sn sc k.opts)(s t:Int×Int)(ho: ∀ o∈k.opts,optE o.rel o.lo o.hi=0)(hs:bothE s.1 s.2 t.1 t.2=0):
  Calls Tryz.prog 82 #[.agg #[.string k.left,.slice so sn sc,.string k.right],.agg #[.int .i64 s.1,.int .i64 s.2],.agg #[.int .i64 t.1,.int .i64 t.2]] w0 fun e w' =>e= .returned (.bool (lnkB k s t))∧Below w0.heap.size w0 w' :=by
 obtain⟨g,hg⟩:=hg
 have M:=Mem.begin hg ⟨0,0⟩
 have NL:=Lib.hid hO.len
 have hle:=hO.le
 have HO:=Lib.hid hO
 have HF:Hid (∀ o∈k.opts,∀ wx,Below w0.heap.size w0 wx→Calls Tryz.prog 124 #[.agg #[.int .i64 o.rel,.int .i64 o.lo,.int .i64 o.hi],.agg #[.int .i64 s.1,.int .i64 s.2],.agg #[.int .i64 t.1,.int .i64 t.2]] wx fun e w' =>e= .returned (.bool (fitB o.rel o.lo o.hi s.1 s.2 t.1 t.2))∧Below wx.heap.size wx w'):=fun o h wx hb=>fitting_any _ _ _ _ _ _ _ wx (ho o h) hs
 have HT:Hid (∀ j (hj:j<k.opts.length),fitB k.opts[j].rel k.opts[j].lo k.opts[j].hi s.1 s.2 t.1 t.2=true→lnkB k s t=true):=fun j hj h=>List.any_eq_true.2 ⟨_,List.getElem_mem hj,h⟩
 have HE:Hid (NoB k.opts (fun o=>fitB o.rel o.lo o.hi s.1 s.2 t.1 t.2) k.opts.length→lnkB k s t=false):=fun h=>by
  refine List.any_eq_false.2 fun o ho=>?_
  obtain⟨i,hi,rfl⟩:=List.mem_iff_getElem.1 ho
  simp[h i hi hi]
 clear hO hg ho hs
 generalize lnkB k s t=T at HT HE ⊢
 go_enter Tryz.func82,Tryz.ntmps82
 go_wp2_with (with_reducible (first|(refine wB (L:=[]) M ?_;clear M;intro za w1 M)|(refine wB (L:=[_]) M ?_;clear M;intro zs w1 M)|(refine wB (L:=[_,_]) M ?_;clear M;intro zt w1 M)))
 go_loopg [7] sn (fun f i wr=> ∃ (j:Nat),j+f=sn∧i= .int .i64 j∧Mem (StaysB g w0) g w0 wr ⟨0,0⟩ (own zt [.int .i64 t.1,.int .i64 t.2] 62::own zs [.int .i64 s.1,.int .i64 s.2] 62::own za [.string k.left,.slice so sn sc,.string k.right] 134::[])∧Hid (NoB k.opts (fun o=>fitB o.rel o.lo o.hi s.1 s.2 t.1 t.2) j))
 case atStart=>exact⟨0,by omega,rfl,M,noB_zero _ _⟩
 case round=>
  clear M
  obtain⟨j,hj,rfl,M,HB⟩:=hrel
  by_cases hlt:j<sn
  ·have hkl:j<k.opts.length:=by have:=NL.out;omega
   obtain⟨ca,oa,rowa,hixa, -,hrra,hwa⟩:=SlF.rowAt (P:=Tryz.prog) HO.out (plainF_firm _) Tryz.underlying132 szOpt (i:=j) hkl
   have ea:rowa=optC k.opts[j]:=hrra
   subst ea
   have HR:=Lib.hid (fun wx hb=>(hwa wx hb).1)
   have HF2:=Lib.hid (HF.out _ (List.getElem_mem hkl))
   have HT2:=Lib.hid (HT.out j hkl)
   have HB2:Hid (fitB k.opts[j].rel k.opts[j].lo k.opts[j].hi s.1 s.2 t.1 t.2=false→NoB k.opts (fun o=>fitB o.rel o.lo o.hi s.1 s.2 t.1 t.2) (j+1)):=fun h=>noB_succ HB.out hkl h
   clear hwa HB hrra
   unfold optC at HR
   generalize fitB k.opts[j].rel k.opts[j].lo k.opts[j].hi s.1 s.2 t.1 t.2=fb at HF2 HT2 HB2
   generalize k.opts[j]=o at HR HF2
   clear hkl
   go_wp2_with (with_reducible refine wq M ?_)
   ((refine wp_region_calm M (by kernel_rfl) (by kernel_rfl) ?_);(repeat((with_reducible refine c_list rfl fun K hK=>?_);(first|(refine c_load (l' :=?_) ⟨_,M⟩ (fun w M=>?_) ?_;rotate_left;focus((first|(refine q_at (HR.out _ M.new) (by rfl) ?_)|refine q_get M (by exact rfl) ?_|refine q_all M (by rfl) ?_);refine⟨rfl,?_⟩;with_reducible rfl))|(refine c_call (n:=124) (args:=?_) (v:=?_) (fun w=>?_) (fun w M=>?_) ?_;rotate_left 2;(focus(go_simp;try with_reducible rfl));(focus(with_reducible refine(HF2.out _ M.new).mono ?_;rintro e w5 ⟨rfl,hb5⟩;refine⟨?_,M.below hb5⟩;with_reducible rfl)))|(refine c_pure (v:=?_) (fun w=>?_) ?_;rotate_left;focus(go_simp;try with_reducible rfl)));(try go_simp);with_reducible refine hK _ ?_;clear hK K));(refine wpQuiet_nil ?_);clear M;intro w M)
   cases fb with
   |true=>
    have HV:=Lib.hid (HT2.out rfl)
    clear HT2 HB2
    go_wp2_with (with_reducible (first|refine wq M ?_|(refine wS M ?_;clear M;intro w M)|(refine wV M ?_;clear M;intro z w M)|(refine wR M ?_;clear M;intro q w M)))
    go_ret
    rw[HV.out]
    exact⟨rfl,M.new⟩
   |false=>
    have HV:=Lib.hid (HB2.out rfl)
    clear HT2 HB2
    go_wp2_with (with_reducible (first|refine wq M ?_|(refine wS M ?_;clear M;intro w M)|(refine wV M ?_;clear M;intro z w M)|(refine wR M ?_;clear M;intro q w M)))
    go_roundg (sn - (j+1))
    case measure=>omega
    case rel=>exact⟨j+1,by omega,by go_num,M,HV⟩
  ·have hje:j=k.opts.length:=by have:=NL.out;omega
   have HV:=Lib.hid (HE.out (hje▸HB.out))
   clear HB
   go_wp2_with (with_reducible refine wq M ?_)
   go_ret
   rw[HV.out]
   exact⟨rfl,M.new⟩
set_option maxRecDepth 8000 in
set_option maxHeartbeats 8000000 in
theorem latestEnd_any(hg: ∃ g,g<w0.heap.size)(a:Option Addr)(n c:Nat)(l:List Eve)(hX:SlF S w0 5 eveF a n c l):
  Calls Tryz.prog 52 #[.slice a n c] w0 fun e w' =>e= .returned (.int .i64 (lastE l))∧Below w0.heap.size w0 w' :=by
 obtain⟨g,hg⟩:=hg
 have M:=Mem.begin hg ⟨0,0⟩
 have NL:Hid (n=l.length):=hX.len
 have hle:=hX.le
 have HX:=Lib.hid hX
 clear hX hg
 go_enter Tryz.func52,Tryz.ntmps52
 go_wp2_with (with_reducible (first|refine wq M ?_|(refine wS M ?_;clear M;intro w M)|(refine wV M ?_;clear M;intro z w M)|(refine wR M ?_;clear M;intro q w M)))
 go_loopg [3,4] n (fun f m i wr=> ∃ (j:Nat),j+f=n∧m= .int .i64 (lastE (l.take j))∧i= .int .i64 j∧Mem (StaysB g w0) g w0 wr ⟨0,0⟩ [])
 case atStart=>exact⟨0,by omega,rfl,rfl,M⟩
 case round=>
  clear M
  obtain⟨j,hj,rfl,rfl,M⟩:=hrel
  by_cases hlt:j<n
  ·have hal:j<l.length:=by have:=NL.out;omega
   obtain⟨cx,ox,rowx,hixx, -,hrrx,hwx⟩:=SlF.rowAt (P:=Tryz.prog) HX.out eveF_firm Tryz.underlying26 size_eve (i:=j) hal
   obtain⟨px,qx,rx,ex, -⟩:=hrrx
   subst ex
   have HS:Hid (∀ wx,Below w0.heap.size w0 wx→wx.cell? ⟨cx,ox+2+1,none⟩=some (.int .i64 l[j].e.stop)):=fun wx hb=>(hwx wx hb).1 3 _ rfl
   have HLS:Hid (lastE (l.take (j+1))=_):=lastE_snoc hal
   clear hwx
   generalize l[j].e.stop=st at HS HLS
   generalize lastE (l.take j)=ln at HLS ⊢
   clear hal
   by_cases hc:ln<st
   ·have hcb:decide (ln<st)=true:=by simpa using hc
    have HV:Hid (lastE (l.take (j+1))=st):=by show _=_;rw[HLS.out,if_pos hc]
    clear HLS hc
    go_wp2_with (with_reducible refine wC (HS.out _ M.new) ?_)
    go_roundg (n - (j+1))
    case measure=>omega
    case rel=>exact⟨j+1,by omega,by rw[HV.out],by go_num,M⟩
   ·have hcb:decide (ln<st)=false:=by simpa using hc
    have HV:Hid (lastE (l.take (j+1))=ln):=by show _=_;rw[HLS.out,if_neg hc]
    clear HLS hc
    go_wp2_with (with_reducible refine wC (HS.out _ M.new) ?_)
    go_roundg (n - (j+1))
    case measure=>omega
    case rel=>exact⟨j+1,by omega,by rw[HV.out],by go_num,M⟩
  ·have hje:l.take j=l:=List.take_of_length_le (by have:=NL.out;omega)
   rw[hje]
   clear hje
   go_wp2_with (with_reducible (first|refine wq M ?_|(refine wS M ?_;clear M;intro w M)|(refine wV M ?_;clear M;intro z w M)|(refine wR M ?_;clear M;intro q w M)))
   go_ret
   exact⟨rfl,M.new⟩
end
end Go.Proofs.YtfahleafppfkaaaGreatDoor
/-
  The walk of watch: is a tuple blocked? Printed by wab.py.
-/
namespace Go.Proofs.YtfahleafppfkaaaGreatDoor
open Go.RowKit
set_option linter.unusedVariables false
set_option linter.unusedSimpArgs false
section
variable {F:Nat→Prop} {w0:World} {zg:Nat} {v:GA} {b:Bok} {rule:Nat} {R:Rul} {tuple all:List Eve}
theorem Grd.cell(h:Grd F w0 zg v b rule R tuple all){i:Nat}{c:Value}(hi:[Value.slice v.a1 v.n1 v.c1,.slice v.a2 v.n2 v.c2,.int .i64 rule,.slice v.a3 v.n3 v.c3,.slice v.a4 v.n4 v.c4][i]?=some c): ∀ wx,Below w0.heap.size w0 wx→wx.cell? ⟨zg,i,none⟩=some c:=keep_cell h.lt (by have:=h.cells i c hi;simpa using this)
theorem Grd.bk(h:Grd F w0 zg v b rule R tuple all): ∀ wx,Below w0.heap.size w0 wx→wx.rangeAt zg 0 [.slice v.a1 v.n1 v.c1,.slice v.a2 v.n2 v.c2]:=keep_range h.lt (range_part h.cells 0 _ rfl)
theorem Grd.takes(h:Grd F w0 zg v b rule R tuple all){part:Int}(hp:part=1∨part=2){k:Nat}(hk:k<(partL R part).length){x:Eve}{p:Option Addr}{q r:Nat}(hx:eventE b.types x.e x.vals=0)(hxo:eveOk x)(hxv:SlF (under w0.heap.size) w0 3 (plainF valC) p q r x.vals):
  Calls Tryz.prog 37 #[.agg #[.slice v.a1 v.n1 v.c1,.slice v.a2 v.n2 v.c2],.int .i64 rule,.int .i64 part,.int .i64 k,.agg #[.int .i64 x.e.number,.int .i64 x.e.type,.int .i64 x.e.start,.int .i64 x.e.stop,.slice p q r],.slice v.a3 v.n3 v.c3] w0 fun e w' =>e= .returned (.tuple #[.bool (takenB b.types R.whens tuple x ((partL R part).getD k pat0)),.int .i64 0])∧Below w0.heap.size w0 w' :=by
 obtain⟨h1,h2⟩:=h.rl
 have e:=takes_any (Nat.lt_of_lt_of_le h.env.lt (Nat.le_refl _)) h.env h.far b v.a1 v.n1 v.c1 v.a2 v.n2 v.c2 h.types h.rules h.okT h.okR h.okE x p q r hxv hxo v.a3 v.n3 v.c3 tuple h.tup h.okU (by have:=h.tup.len;have:=h.may.len;have:=h.few.1;omega) rule part k
 rw[takes_tup h.book h1 hp (by rw[h2 h1];exact hk) (by rw[h2 h1];exact h.may) hx (fun i hi=>h.evU _ (List.getElem_mem hi)),h2 h1]at e
 exact e
end
end Go.Proofs.YtfahleafppfkaaaGreatDoor
/-
  The walk of watch: are there enough? Printed by wae.py.
-/
namespace Go.Proofs.YtfahleafppfkaaaGreatDoor
open Go.RowKit
set_option linter.unusedVariables false
set_option linter.unusedSimpArgs false
section
variable {F:Nat→Prop} {w0:World} {zg:Nat} {v:GA} {b:Bok} {rule:Nat} {R:Rul} {tuple all:List Eve}
end
end Go.Proofs.YtfahleafppfkaaaGreatDoor
/-
  The walk of watch.Fires. Printed by waf.py.
-/
namespace Go.Proofs.YtfahleafppfkaaaGreatDoor
open Go.RowKit
set_option linter.unusedVariables false
set_option linter.unusedSimpArgs false
theorem events_parts{b:Bok}{l:List Eve}(h:eventsE b l=0):bookE b=0∧l.length≤120∧ ∀ x∈l,eventE b.types x.e x.vals=0:=by
 unfold eventsE at h
 by_cases h1:bookE b≠0
 ·rw[if_pos h1]at h;exact absurd h h1
 rw[if_neg h1]at h
 by_cases h2:120<l.length
 ·rw[if_pos h2]at h;exact absurd h (by decide)
 rw[if_neg h2]at h
 refine⟨Classical.not_not.1 h1,by omega,fun x hx=>?_⟩
 obtain⟨i,hi,rfl⟩:=List.mem_iff_getElem.1 hx
 have:=firstN_all h i hi
 unfold evesE at this
 rw[show l.getD i default=l[i]by simp[List.getD,List.getElem?_eq_getElem hi]]at this
 by_cases h3:eventE b.types l[i].e l[i].vals≠0
 ·rw[if_pos h3]at this;exact absurd this h3
 ·exact Classical.not_not.1 h3
section
variable {g:Nat} {F:Nat→Prop} {w0:World}
end
end Go.Proofs.YtfahleafppfkaaaGreatDoor
/-
  The walk of the reference's watch: fired. Printed by was.py.
-/
namespace Go.Proofs.YtfahleafppfkaaaGreatDoor
open Go.RowKit
set_option linter.unusedVariables false
set_option linter.unusedSimpArgs false
theorem inB_is2(n lo hi:Int)(b:Bool)(h:inB n lo hi=b)(w:World):Calls Tryz.prog 21 #[.int .i64 n,.int .i64 lo,.int .i64 hi] w fun e w' =>e= .returned (.bool b)∧Below w.heap.size w w' :=by
 rw[←h];exact(in_any n lo hi w).mono fun e w' h=>⟨h.1,h.2▸Below.refl _ _⟩
section
variable {w0:World}
end
end Go.Proofs.YtfahleafppfkaaaGreatDoor
/-
  The walk of the reference's FiredOf. Printed by wat.py.
-/
namespace Go.Proofs.YtfahleafppfkaaaGreatDoor
open Go.RowKit
set_option linter.unusedVariables false
set_option linter.unusedSimpArgs false
section
variable {g:Nat} {F F3:Nat→Prop} {w0:World}
end
end Go.Proofs.YtfahleafppfkaaaGreatDoor
/-
  The walk of the law WatchFires: the program's answer and the reference's are the same. Printed by wao.py.
-/
namespace Go.Proofs.YtfahleafppfkaaaGreatDoor
open Go.ChangeShapes Go.WideShapes Go.ChangeAt Go.RowKit Go.Joins Go.Deep
set_option linter.unusedVariables false
set_option linter.unusedSimpArgs false
set_option maxRecDepth 100000 in
theorem open_eves{H:Type}{enc:TypeId×Value→H}{W:World}{base:Nat}{v:Value}{d:DataW H}{ps:List MemPlace}(hv:Value.okWide Tryz.prog W .any base 26 v)(h:DataW.Trod enc Tryz.prog W 0 (fun _=>true) true 26 v d ps)(hlt: ∀ p∈ps,p.block<W.heap.size)(hB: ∀ q∈d.weights Tryz.prog 26,q≤reachBytes):
  ∃ (l:List Eve) (ao:Option Addr) (n cap:Nat),v= .slice ao n cap∧SlF (under W.heap.size) W 5 eveF ao n cap l∧(∀ x∈l,eveOk x)∧n*56≤140737488351232:=by
 obtain⟨qa,qb,qc,rfl⟩:=okWide_slice Tryz.underlying26 hv
 obtain⟨l,ao,n,cap,e,S,h8⟩:=open_arg opens_events (by simp[Value.cells]) h hlt hB
 simp only[Value.cells,List.cons.injEq,and_true,Value.slice.injEq]at e
 obtain⟨rfl,rfl,rfl⟩:=e
 have S' :SlF (under W.heap.size) W 5 (fun F w row x=>eveF F w row x∧eveOk x) qa qb qc l:=S
 refine⟨l,qa,qb,qc,rfl,S'.split.1,S'.split.2,?_⟩
 rw[S.len]
 omega
section
end
end Go.Proofs.YtfahleafppfkaaaGreatDoor
