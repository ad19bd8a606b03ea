/-
  Add of join's teams, where a team is full. Printed by jta.py.
-/
import Derived.Test.YtfahleafppfkaaaGreatDoorJuD
import Derived.Test.YtfahleafppfkaaaGreatDoorWf21
namespace Go.Proofs.YtfahleafppfkaaaGreatDoor
open Go.RowKit
set_option linter.unusedVariables false
set_option linter.unusedSimpArgs false
instance iRowInts:RowI Tryz.prog 27 36 1:=⟨⟨Tryz.underlying27,⟨.slice none 0 0,by kernel_rfl,rfl⟩,by kernel_rfl,by kernel_rfl,by omega,by omega⟩⟩
instance iOneInts:OneI Tryz.prog 36:=⟨⟨by kernel_rfl,_,Tryz.underlying36,rfl⟩⟩
instance iOneIntss:OneI Tryz.prog 27:=⟨⟨by kernel_rfl,_,Tryz.underlying27,rfl⟩⟩
section
variable {P:Program} {o:Oper} {a:Act} {Q:Exit→Act→World→Prop} {K:Act→World→Prop}
variable {At:PS→World→Prop} {b:Nat} {u w:World} {s:PS} {L:List Ent}
theorem op_appendW{α:Type}{R:(Nat→Prop)→World→List Value→α→Prop}(hR:Firm R)(M:Mem At b u w s L){t e k:Nat}(hT:RowT P t e k)(sl x:Operand)(ho:o.op= .call {callee:= .builtin .append,args:= #[sl,x],argTypes:= #[t,t]})(hty:o.type=t)
  (v:Value)(hs:a.eval sl=v)(q:Nat)(hx:a.eval x= .slice (some ⟨q,0,none⟩) 1 1){row:List Value}{te:TypeId}(hq:own q row te∈L){i:Nat}{xs:List α}(hi:L[i]?=some (slc u.heap.size e k R v xs))(y:α)(hy:R (free_ u w L) w row y)
  (hl:row.length=k)(h1: ∀ c∈row,c.oneCell' =true)(hn:xs.length≤100000000)
  (h: ∀ ra rc w',Mem At b u w' s (L.set i (slc u.heap.size e k R (.slice ra (xs.length+1) rc) (xs++[y])))→K (a.put o.dst (.slice ra (xs.length+1) rc)) w'):o.wp P a w K Q:=by
 obtain⟨g1,ti,z,g2,g3,g4,g5,g6,g7,g8,g9⟩:=hT.open
 have hown:OwnF (free_ u w L) u.heap.size w e k R v xs:=M.say _ (Mem.of_get hi)
 have hbase:=hown.base
 have hown' :=hown
 obtain⟨rs,h3,h4⟩:=hown
 have hO:=M.own_ hq
 have hoff:Same (free_ u w L) (off_ (free_ u w L) v) w w:=Same.wide fun k hk _=>⟨hk,fun e=>hk.2.2 _ (Mem.of_get hi) e⟩
 obtain⟨v',w',hrun,ho',hg,_,hob⟩:=run_append_own_at (P:=P) w u.heap.size t t e ti z k ti.bytes g1 g2 g3 g4 rfl g5 g6 v xs.length rs h3 ⟨q,0,none⟩ 1 1 row (by rw[hl,Nat.one_mul])
  (fun j c hj=>by rw[Go.WideShapes.add_plain,Nat.zero_add,hO.cell];exact hj) h1 (by unfold maxLen;omega) (Nat.le_trans (Nat.mul_le_mul_left _ g9) (by omega)) M.size
 refine wp_append_run sl x t ho hty hs hx hrun ?_
 have hO2:=OwnF.snoc hR h3 h4 hl (hR _ _ _ _ _ _ hoff hy) hg ho' hob
 obtain⟨ra,rc,hv⟩:=hO2.slice
 rw[List.length_append]at hv
 simp only[List.length_cons,List.length_nil,Nat.zero_add]at hv
 subst hv
 have hbl:b<w.heap.size:=Nat.lt_of_lt_of_le M.lt M.size
 have hne:v.ownBlock≠some b:=fun e=>by have:=hbase b e;have:=M.lt;omega
 have hbel:Below u.heap.size w w' :=(Below.refl _ _).grown hg M.size hbase
 have hbut:But b w w' →But b u w' :=fun hb=>M.but.trans hb
 have hsame: ∀ k,k<w.heap.size→k≠b→v.ownBlock≠some k→w'.heap[k]?=w.heap[k]?:=fun k hk _ hk' =>hg.block k hk (fun e=>hk' e.symm)
 have hb2:But b u w' :=⟨(M.but.below).trans (hbel.mono (Nat.le_of_lt M.lt)),fun k hk hkb=>by
  rw[hg.block k (Nat.lt_of_lt_of_le hk M.size) (fun e=>by have:=hbase k e.symm;omega)]
  exact M.but.rest k hk hkb⟩
 refine h ra rc w' (M.setAt hi (M.stay s w w' (hg.block b hbl (fun e=>hne e.symm)) M.at_) hb2 hg.size hsame (slc_firm hR _ _) (fun y hy=>?_) (fun y hy=>?_) (fun G hG _=>?_))
 ·have hlt: ∀ g,(Value.slice ra (xs.length+1) rc).ownBlock=some g→u.heap.size≤g∧g<w'.heap.size:=fun g hg' =>by
   rcases ho'.2 with⟨e0,_⟩|⟨g0,cap,cur,e0,hge,hh,_⟩
   ·rw[e0]at hg';cases hg'
   ·rw[e0]at hg'
    have e1:g0=g:=by injection hg'
    subst e1
    exact⟨hge,(Array.getElem?_eq_some_iff.1 hh).1⟩
  exact hlt y hy
 ·rcases hob with h|h
  ·exact .inr (h.symm.trans hy)
  ·have e1:some w.heap.size=some y:=h.symm.trans hy
   injection e1 with e1
   exact .inl (by omega)
 ·obtain⟨rs2,k1,k2⟩:=hO2
  refine⟨rs2,k1,fun i hi=>?_⟩
  obtain⟨r,k3,k4,k5⟩:=k2 i hi
  exact⟨r,k3,k4,hR _ _ _ _ _ _ (Same.wide fun k hk _=>⟨hG k hk.1,hk.2⟩) k5⟩
end
section
variable {P:Program} {dst:Option Tmp} {oty ty:TypeId} {pos:String} {after:Array Edge} {g:Option (Nat×Bool)} {l l' :List Value} {ds:List Deferred} {Q:Exit→Act→World→Prop} {K:Act→World→Prop}
variable {At:PS→World→Prop} {b:Nat} {u w:World} {s:PS} {L:List Ent} {j j' :Nat} {v:Value}
theorem q_appW{α:Type}{R:(Nat→Prop)→World→List Value→α→Prop}(hR:Firm R){e k q iq:Nat}{row:List Value}{te:TypeId}(M:Mem At b u w s L)[hT:RowI P ty e k][hs:Nth l j v][hx:Nth l j' (.slice (some ⟨q,0,none⟩) 1 1)][hq:Has L q iq row te]
  (i:Nat){xs:List α}(hi:L[i]?=some (slc u.heap.size e k R v xs))(y:α)(hy:R (free_ u w L) w row y)(hl:Nat.beq row.length k=true)(h1:row.all Value.oneCell' =true)(hn:xs.length≤100000000){F:Option Addr→Nat→List Value}
  [hd: ∀ ra rc,PutI l dst (.slice ra (xs.length+1) rc) (F ra rc)](h: ∀ ra rc w',Mem At b u w' s (L.set i (slc u.heap.size e k R (.slice ra (xs.length+1) rc) (xs++[y])))→K ⟨(F ra rc).toArray,ds⟩ w'):
  OWP P ⟨dst,.call {callee:= .builtin .append,args:= #[.tmp j,.tmp j'],argTypes:= #[ty,ty]},ty,pos,after,g⟩ ⟨l.toArray,ds⟩ w K Q:=
 owp_of (op_appendW hR M hT.row _ _ rfl rfl v (eval_tmp hs.nth) q (eval_tmp hx.nth) (Mem.of_get hq.at_) hi y hy (Nat.eq_of_beq_eq_true hl) (ones_of h1) hn (fun ra rc w' M' =>by rw[(hd ra rc).put];exact h ra rc w' M'))
end
section
variable {F:Nat→Prop} {g zg:Nat} {u w0:World} {v:GA} {b:Bok} {rule:Nat} {R:Rul} {l all:List Eve} {rows:List (List Value)} {ch ov:Value} {outs:List (List Int)} {Kt:List Ent}
theorem Tb.rule0(h:Tb F u v b rule R all): ∃ (cr or:Nat) (b1:Option Addr) (e1:Nat),
  (∀ wx,(Instr.indexAt 23 (.slice v.a2 v.n2 v.c2) (.int .i64 rule)).run Tryz.prog wx= .ok (.pointer (some ⟨cr,or,none⟩)) wx)∧
  (∀ wx,Below u.heap.size u wx→wx.cell? ⟨cr,or+1,none⟩=some (.slice b1 R.whens.length e1)):=by
 obtain⟨h1,h2⟩:=h.rl
 obtain⟨cr,or,rowr,hixr, -,hrrr,hwr⟩:=SlF.rowAt (P:=Tryz.prog) h.rules rulF_firm Tryz.underlying23 size_rul (i:=rule) h1
 obtain⟨b1,m1,e1,b2,m2,e2,b3,m3,e3,b4,m4,e4,b6,m6,e6,er,Y1,Y2,Y3,Y4, -⟩:=hrrr
 subst er
 rw[h2 h1]at Y1 hwr
 have hl:=Y1.len
 subst hl
 exact⟨cr,or,b1,e1,hixr,fun wx hb=>(hwr wx hb).1 1 _ rfl⟩
theorem nsF_mk{F:Nat→Prop}{w:World}{ao:Option Addr}{n cap:Nat}{xs:List Int}(h:SlF F w 1 intF ao n cap xs):nsF F w [.slice ao n cap] xs:=⟨ao,n,cap,rfl,h⟩
theorem nums_snoc{l:List Eve}{j:Nat}(h:j<l.length):numsE (l.take (j+1))=numsE (l.take j)++[l[j].e.number]:=by
 unfold numsE
 rw[List.take_add_one,List.getElem?_eq_getElem h,List.map_append]
 rfl
set_option maxRecDepth 8000 in
set_option maxHeartbeats 8000000 in
theorem addEnd0_any(T:Tb F u v b rule R all)(hg:g<u.heap.size)(hfull:l.length=R.whens.length)(hr:Rws u rows l)(C:Cho b R all l)(hwb:windowsB all R.whens l=false)(M:Mem (StaysB g u) g u w0 ⟨0,0⟩ (own zg [.slice v.a1 v.n1 v.c1,.slice v.a2 v.n2 v.c2,.int .i64 rule,.slice v.a4 v.n4 v.c4,ch,ov] 50::slc u.heap.size 65 5 rawF ch rows::slc u.heap.size 36 1 nsF ov outs::Kt)):
  Calls Tryz.prog 19 #[.pointer (some ⟨zg,0,none⟩)] w0 fun e w' =>e= .returned (.tuple #[])∧ ∃ ch' ov',Mem (StaysB g u) g u w' ⟨0,0⟩ (own zg [.slice v.a1 v.n1 v.c1,.slice v.a2 v.n2 v.c2,.int .i64 rule,.slice v.a4 v.n4 v.c4,ch',ov'] 50::slc u.heap.size 65 5 rawF ch' rows::slc u.heap.size 36 1 nsF ov' (outs++addL b.types R all 0 l)::Kt):=by
 obtain⟨ao,cap,rfl,hS0⟩:=tup_raw M (i:=1) rfl hr
 obtain⟨oa,oc,rfl⟩:=slc_slice M (i:=2) rfl
 obtain⟨cr,or,b1,e1,hixr,hR1⟩:=T.rule0
 have HR1:=Lib.hid hR1
 have HRW:=Lib.hid hr
 have HTB:=Lib.hid T
 have HCC:=Lib.hid C
 have HFU:=Lib.hid hfull
 have hl3:l.length≤3:=by have:=(rule_few T.zero).1;omega
 have hq1:((l.length:Int)==(R.whens.length:Int))=true:=by simp[hfull]
 have hadd:addL b.types R all 0 l=if windowsB all R.whens l=true then [numsE l]else []:=rfl
 rw[hadd,hwb,if_neg (by simp),List.append_nil]
 clear hadd T hR1 hr C hfull hg hS0
 go_enter Tryz.func19,Tryz.ntmps19
 go_wp2_with (with_reducible refine wq M ?_)
 ((refine wp_region_calm M (by kernel_rfl) (by kernel_rfl) ?_);(repeat((with_reducible refine c_list rfl fun K hK=>?_);(first|(refine c_load (l' :=?_) ⟨_,M⟩ (fun w M=>?_) ?_;rotate_left;focus((first|(refine q_cellat (HR1.out _ M.new) ?_)|refine q_get M (by exact rfl) ?_);refine⟨rfl,?_⟩;with_reducible rfl))|(refine c_pure (v:=?_) (fun w=>?_) ?_;rotate_left;focus(go_simp;try with_reducible rfl)));(try go_simp);with_reducible refine hK _ ?_;clear hK K));(refine wpQuiet_nil ?_);clear M;intro w M)
 go_wp2_with (go_at_call 34;with_reducible refine(windowsJ_any (HTB.out.mem M (j:=0) rfl (i:=1) rfl HRW.out HCC.out) HFU.out).mono ?_;rintro e w5 ⟨rfl,hb5⟩;replace M:=M.below hb5;clear hb5;(try rw[hwb]))
 refine bodyPost_ret (results_none rfl _ _ _) rfl ?_
 exact⟨rfl,_,_,M⟩
set_option maxRecDepth 8000 in
set_option maxHeartbeats 8000000 in
theorem addEnd_any(T:Tb F u v b rule R all)(hg:g<u.heap.size)(hfull:l.length=R.whens.length)(hr:Rws u rows l)(C:Cho b R all l)(hwb:windowsB all R.whens l=true)(ho:outs.length+1≤100000000)(M:Mem (StaysB g u) g u w0 ⟨0,0⟩ (own zg [.slice v.a1 v.n1 v.c1,.slice v.a2 v.n2 v.c2,.int .i64 rule,.slice v.a4 v.n4 v.c4,ch,ov] 50::slc u.heap.size 65 5 rawF ch rows::slc u.heap.size 36 1 nsF ov outs::Kt)):
  Calls Tryz.prog 19 #[.pointer (some ⟨zg,0,none⟩)] w0 fun e w' =>e= .returned (.tuple #[])∧ ∃ ch' ov',Mem (StaysB g u) g u w' ⟨0,0⟩ (own zg [.slice v.a1 v.n1 v.c1,.slice v.a2 v.n2 v.c2,.int .i64 rule,.slice v.a4 v.n4 v.c4,ch',ov'] 50::slc u.heap.size 65 5 rawF ch' rows::slc u.heap.size 36 1 nsF ov' (outs++addL b.types R all 0 l)::Kt):=by
 obtain⟨ao,cap,rfl,hS0⟩:=tup_raw M (i:=1) rfl hr
 obtain⟨oa,oc,rfl⟩:=slc_slice M (i:=2) rfl
 have hwl:R.whens.length≤3:=(rule_few T.zero).1
 obtain⟨cr,or,b1,e1,hixr,hR1⟩:=T.rule0
 have HR1:=Lib.hid hR1
 have HRW:=Lib.hid hr
 have HTB:=Lib.hid T
 have HCC:=Lib.hid C
 have HFU:=Lib.hid hfull
 have hl3:l.length≤3:=by omega
 have hq1:((l.length:Int)==(R.whens.length:Int))=true:=by simp[hfull]
 have HOL:Hid (outs.length≤100000000):=by show _≤_;omega
 have hadd:addL b.types R all 0 l=if windowsB all R.whens l=true then [numsE l]else []:=rfl
 rw[hadd,hwb,if_pos rfl]
 clear hadd T hR1 hr C hfull hg hS0 ho
 go_enter Tryz.func19,Tryz.ntmps19
 go_wp2_with (with_reducible refine wq M ?_)
 ((refine wp_region_calm M (by kernel_rfl) (by kernel_rfl) ?_);(repeat((with_reducible refine c_list rfl fun K hK=>?_);(first|(refine c_load (l' :=?_) ⟨_,M⟩ (fun w M=>?_) ?_;rotate_left;focus((first|(refine q_cellat (HR1.out _ M.new) ?_)|refine q_get M (by exact rfl) ?_);refine⟨rfl,?_⟩;with_reducible rfl))|(refine c_pure (v:=?_) (fun w=>?_) ?_;rotate_left;focus(go_simp;try with_reducible rfl)));(try go_simp);with_reducible refine hK _ ?_;clear hK K));(refine wpQuiet_nil ?_);clear M;intro w M)
 go_wp2_with (first|(with_reducible refine wq M ?_)|(go_at_call 34;with_reducible refine(windowsJ_any (HTB.out.mem M (j:=0) rfl (i:=1) rfl HRW.out HCC.out) HFU.out).mono ?_;rintro e w5 ⟨rfl,hb5⟩;replace M:=M.below hb5;clear hb5;(try rw[hwb])))
 replace M:=M.none_ (R:=intF) (plainF_firm _) 3 1
 go_loopg [3,37] l.length (fun f vv i wr=> ∃ (j:Nat) (ns:List Int) (ra:Option Addr) (rc:Nat),j+f=l.length∧vv= .slice ra ns.length rc∧i= .int .i64 j∧Mem (StaysB g u) g u wr ⟨0,0⟩ (slc u.heap.size 3 1 intF (.slice ra ns.length rc) ns::own zg [.slice v.a1 v.n1 v.c1,.slice v.a2 v.n2 v.c2,.int .i64 rule,.slice v.a4 v.n4 v.c4,(.slice ao l.length cap),(.slice oa outs.length oc)] 50::slc u.heap.size 65 5 rawF (.slice ao l.length cap) rows::slc u.heap.size 36 1 nsF (.slice oa outs.length oc) outs::Kt)∧Hid (ns=numsE (l.take j)))
 case atStart=>exact⟨0,[],none,0,by omega,rfl,rfl,M,Lib.hid rfl⟩
 case round=>
  clear M
  obtain⟨j,ns,ra,rc,hj,rfl,rfl,M,HN⟩:=hrel
  by_cases hlt:j<l.length
  ·obtain⟨cx,ox,rowx,hixx, -,hrrx,hwx⟩:=SlF.rowAt (P:=Tryz.prog) (tup_at M (i:=2) rfl HRW.out) eveF_firm Tryz.underlying26 size_eve (i:=j) hlt
   obtain⟨px,qx,rx,ex, -⟩:=hrrx
   subst ex
   have HRX:=Lib.hid (hwx _ (Below.refl _ _)).1
   have HNS:Hid (ns++[l[j].e.number]=numsE (l.take (j+1))):=by show _=_;rw[nums_snoc hlt,HN.out]
   have hnl:Hid (ns.length≤100000):=by
    show _≤_
    rw[HN.out]
    unfold numsE
    rw[List.length_map,List.length_take]
    omega
   clear hwx HN
   generalize l[j]=x at HRX HNS
   go_wp2_with (first|(with_reducible (first|(refine wV M ?_;clear M;intro zX w M)|refine wq M ?_|(refine wS M ?_;clear M;intro w M)|refine wA HRX.out ?_|(refine w_ (q_rowv M ?_);clear M;intro q w M)))|(refine w_ (q_app (R:=intF) (plainF_firm _) M 2 rfl _ rfl (by rfl) (by rfl) hnl.out ?_);clear M;intro ra2 rc2 w M;(try simp only[List.set_cons_zero,List.set_cons_succ]at M)))
   go_roundg (l.length - (j+1))
   case measure=>omega
   case rel=>exact⟨j+1,_,_,_,by omega,by rw[List.length_append];rfl,by go_num,by(have M2:=M.drop.drop);(rw[List.length_append];exact M2),HNS⟩
  ·have hje:ns=numsE l:=by rw[HN.out,List.take_of_length_le (by omega)]
   obtain⟨ra2,rc2,e2,M⟩:=M.done (plainF_firm _) (by omega)
   injection e2 with e3 e4 e5
   subst e3 e5
   subst hje
   clear HN e4
   go_wp2_with (first|(with_reducible (first|refine wq M ?_|(refine wS M ?_;clear M;intro w M)|(refine w_ (q_rowv M ?_);clear M;intro q w M)))|(refine w_ (q_appW (R:=nsF) nsF_firm M 4 rfl (numsE l) (nsF_mk (M.dat_ (i:=1) rfl)) (by rfl) (by rfl) HOL.out ?_);clear M;intro ra2 rc2 w M;(try simp only[List.set_cons_zero,List.set_cons_succ]at M)))
   refine bodyPost_ret (results_none rfl _ _ _) rfl ?_
   refine⟨rfl,.slice ao l.length cap,.slice ra2 (outs.length+1) rc2,?_⟩
   exact M.drop.drop
end
end Go.Proofs.YtfahleafppfkaaaGreatDoor
/-
  All teams of so many, told one by one (the reference). Printed by jte.py.
-/
namespace Go.Proofs.YtfahleafppfkaaaGreatDoor
open Go.RowKit
set_option linter.unusedVariables false
set_option linter.unusedSimpArgs false
theorem size_ints:SizeIs Tryz.prog 36 1:=fun w=>by kernel_rfl
theorem q_rowc{P:Program}{dst:Option Tmp}{oty:TypeId}{pos:String}{after:Array Edge}{g:Option (Nat×Bool)}{l:List Value}{ds:List Deferred}{Q:Exit→Act→World→Prop}{K:Act→World→Prop}{At:PS→World→Prop}{b:Nat}{u w:World}{s:PS}{L:List Ent}{ty:Nat}
  (M:Mem At b u w s L){e:Nat}{v:Value}[h1:OneC v][hT:RowI P ty e 1]{F:Nat→List Value}[hd: ∀ q,PutI l dst (.slice (some ⟨q,0,none⟩) 1 1) (F q)](h: ∀ q w',Mem At b u w' s (own q [v] e::L)→K ⟨(F q).toArray,ds⟩ w'):OWP P ⟨dst,.buildSlice ty 1 #[(0,.const v)],oty,pos,after,g⟩ ⟨l.toArray,ds⟩ w K Q:=
 owp_of (op_build2 M hT.row _ rfl _ rfl (cells_one h1.one) (fun q w' M' =>by rw[(hd q).put];exact h q w' M'))
def extI(m:Nat)(l:List Int):List (List Int):=(List.range m).map fun j:Nat=>l++[(j:Int)]
def teamsI(m:Nat):Nat→List (List Int)
 |0=>[[]]
 |n+1=>(teamsI m n).flatMap (extI m)
theorem teamsI_eq(m:Nat): ∀ n,teamsI m n=(teamsL m n).map (fun t=>t.map fun j:Nat=>(j:Int))
 |0=>rfl
 |n+1=>by
  show(teamsI m n).flatMap (extI m)=((teamsL m n).flatMap fun l=>(List.range m).map fun j=>l++[j]).map _
  rw[teamsI_eq m n,List.map_flatMap,List.flatMap_map]
  refine congrArg (fun f=>List.flatMap f (teamsL m n)) (funext fun l=>?_)
  unfold extI
  rw[List.map_map]
  refine List.map_congr_left fun j _=>?_
  simp
theorem teamsI_len(m:Nat): ∀ n,(teamsI m n).length=m^n
 |0=>rfl
 |n+1=>by
  have: ∀ k:List (List Int),(k.flatMap (extI m)).length=k.length*m:=fun k=>by
   induction k with
   |nil=>simp
   |cons x k ih=>rw[List.flatMap_cons,List.length_append,ih,List.length_cons,Nat.add_mul,Nat.one_mul];unfold extI;simp[Nat.add_comm]
  show((teamsI m n).flatMap (extI m)).length=_
  rw[this,teamsI_len m n,Nat.pow_succ]
theorem teamsI_in(m:Nat): ∀ n l,l∈teamsI m n→l.length=n∧ ∀ x∈l,0≤x∧x<m
 |0,l,h=>by
  have:l=[]:=by simpa[teamsI]using h
  subst this;simp
 |n+1,l,h=>by
  obtain⟨k,h1,h2⟩:=List.mem_flatMap.1 h
  unfold extI at h2
  obtain⟨j,h3,rfl⟩:=List.mem_map.1 h2
  obtain⟨h4,h5⟩:=teamsI_in m n k h1
  refine⟨by simp[h4],fun y hy=>?_⟩
  rcases List.mem_append.1 hy with hy|hy
  ·exact h5 y hy
  ·rw[List.mem_singleton.1 hy]
   have:=List.mem_range.1 h3
   omega
theorem flatI_snoc{m k:Nat}{L:List (List Int)}(h:k<L.length):(L.take (k+1)).flatMap (extI m)=(L.take k).flatMap (extI m)++extI m L[k]:=by
 rw[List.take_add_one,List.getElem?_eq_getElem h,List.flatMap_append]
 simp
theorem flatI_le{m k j:Nat}{L:List (List Int)}(h:k<L.length)(hj:j≤m):((L.take k).flatMap (extI m)++((List.range j).map fun i:Nat=>L[k]++[(i:Int)])).length≤(L.flatMap (extI m)).length:=by
 have h0:L.flatMap (extI m)=(L.take (k+1)).flatMap (extI m)++(L.drop (k+1)).flatMap (extI m):=by rw[←List.flatMap_append,List.take_append_drop]
 rw[h0,flatI_snoc h]
 unfold extI
 simp only[List.length_append,List.length_map,List.length_range]
 omega
theorem row_snoc{j:Nat}{l:List Int}:(List.range (j+1)).map (fun i:Nat=>l++[(i:Int)])=(List.range j).map (fun i:Nat=>l++[(i:Int)])++[l++[(j:Int)]]:=by
 rw[List.range_succ,List.map_append]
 rfl
section
variable {g:Nat} {w0:World}
set_option maxRecDepth 8000 in
set_option maxHeartbeats 8000000 in
theorem teams_any(hg:g<w0.heap.size)(n m:Nat)(hn:n≤3)(hm:m≤120):Calls Tryz.prog 39 #[.int .i64 n,.int .i64 m] w0 fun e w' => ∃ ao c,e= .returned (.slice ao (teamsI m n).length c)∧Below w0.heap.size w0 w' ∧SlF (fun _=>True) w' 1 nsF ao (teamsI m n).length c (teamsI m n):=by
 have M:=Mem.begin hg ⟨0,0⟩
 have HB:Hid (∀ i,i≤n→(teamsI m i).length≤1728000):=fun i hi=>by
  rw[teamsI_len]
  exact Nat.le_trans (Nat.pow_le_pow_left hm i) (Nat.le_trans (Nat.pow_le_pow_right (by omega) (Nat.le_trans hi hn)) (by decide))
 clear hg
 go_enter Tryz.func39,Tryz.ntmps39
 go_wp2_with (with_reducible (refine w_ (q_rowc M ?_);clear M;intro q w M))
 replace M:=M.one (R:=nsF) nsF_firm (k:=1) (by omega) (by omega) ([]:List Int) (nsF_mk SlF.nil) rfl
 go_loopg [5,6] n (fun f v i wr=> ∃ (j:Nat) (ra:Option Addr) (rc:Nat),j+f=n∧v= .slice ra (teamsI m j).length rc∧i= .int .i64 j∧Mem (StaysB g w0) g w0 wr ⟨0,0⟩ (slc w0.heap.size 36 1 nsF (.slice ra (teamsI m j).length rc) (teamsI m j)::[]))
 case atStart=>exact⟨0,_,_,by omega,rfl,rfl,M⟩
 case round=>
  clear M
  obtain⟨i,oa,oc,hi,rfl,rfl,M⟩:=hrel
  by_cases hin:i<n
  ·obtain⟨ra2,rc2,e2,M⟩:=M.done nsF_firm (by omega)
   injection e2 with e3 e4 e5
   subst e3 e5
   clear e4
   have HBI:=Lib.hid (HB.out (i+1) (by omega))
   have hLl:=HB.out i (by omega)
   replace M:=M.none_ (R:=nsF) nsF_firm 36 1
   go_wp2_with (with_reducible (first|refine wq M ?_|(refine wS M ?_;clear M;intro w M)|(refine wV M ?_;clear M;intro z w M)|(refine wR M ?_;clear M;intro q w M)))
   go_loopg [7,8] (teamsI m i).length (fun f v k wr=> ∃ (j:Nat) (N:List (List Int)) (ra:Option Addr) (rc:Nat),j+f=(teamsI m i).length∧v= .slice ra N.length rc∧k= .int .i64 j∧Mem (StaysB g w0) g w0 wr ⟨0,0⟩ (slc w0.heap.size 36 1 nsF (.slice ra N.length rc) N::dat (fun F w=>SlF F w 1 nsF oa (teamsI m i).length oc (teamsI m i))::[])∧Hid (N=((teamsI m i).take j).flatMap (extI m)))
   case atStart=>exact⟨0,[],none,0,by omega,rfl,rfl,M,Lib.hid rfl⟩
   case round=>
    clear M
    obtain⟨k,N,na,nc,hk,rfl,rfl,M,HN⟩:=hrel
    by_cases hkl:k<(teamsI m i).length
    ·have HLI:=Lib.hid (teamsI_in m i _ (List.getElem_mem hkl))
     have HKL:=Lib.hid hkl
     go_wp2_with (with_reducible (first|refine wq M ?_|(refine wS M ?_;clear M;intro w M)|(refine wV M ?_;clear M;intro z w M)|(refine wR M ?_;clear M;intro q w M)))
     go_loopg [7,9] m (fun f v ii wr=> ∃ (j:Nat) (N:List (List Int)) (ra:Option Addr) (rc:Nat),j+f=m∧v= .slice ra N.length rc∧ii= .int .i64 j∧Mem (StaysB g w0) g w0 wr ⟨0,0⟩ (slc w0.heap.size 36 1 nsF (.slice ra N.length rc) N::dat (fun F w=>SlF F w 1 nsF oa (teamsI m i).length oc (teamsI m i))::[])∧Hid (N=((teamsI m i).take k).flatMap (extI m)++(List.range j).map fun a:Nat=>(teamsI m i)[k]++[(a:Int)]))
     case atStart=>exact⟨0,N,na,nc,by omega,rfl,rfl,M,Lib.hid (by rw[HN.out];simp)⟩
     case round=>
      clear M HN
      obtain⟨j,N2,na2,nc2,hj,rfl,rfl,M,HN2⟩:=hrel
      by_cases hjm:j<m
      ·replace M:=M.none_ (R:=intF) (plainF_firm _) 3 1
       go_wp2_with (with_reducible (first|refine wq M ?_|(refine wS M ?_;clear M;intro w M)|(refine wV M ?_;clear M;intro z w M)|(refine wR M ?_;clear M;intro q w M)))
       go_loopg [10,11] (teamsI m i)[k].length (fun f v ii wr=> ∃ (h:Nat) (l:List Int) (ra:Option Addr) (rc:Nat),h+f=(teamsI m i)[k].length∧v= .slice ra l.length rc∧ii= .int .i64 h∧Mem (StaysB g w0) g w0 wr ⟨0,0⟩ (slc w0.heap.size 3 1 intF (.slice ra l.length rc) l::slc w0.heap.size 36 1 nsF (.slice na2 N2.length nc2) N2::dat (fun F w=>SlF F w 1 nsF oa (teamsI m i).length oc (teamsI m i))::[])∧Hid (l=(teamsI m i)[k].take h))
       case atStart=>exact⟨0,[],none,0,by omega,rfl,rfl,M,Lib.hid rfl⟩
       case round=>
        clear M
        obtain⟨h,l,la,lc,hh,rfl,rfl,M,HL⟩:=hrel
        have hD:SlF _ wr 1 nsF oa (teamsI m i).length oc (teamsI m i):=M.dat_ (i:=2) rfl
        obtain⟨ck,ok,rowk,hixk, -,hrrk,hwk⟩:=SlF.rowAt (P:=Tryz.prog) hD nsF_firm Tryz.underlying27 size_ints (i:=k) HKL.out
        obtain⟨ka,kn,kc,ek,hK⟩:=hrrk
        subst ek
        have HK:=Lib.hid ((hwk _ (Below.refl _ _)).1 0 _ rfl)
        have hkn:=hK.len
        subst hkn
        have hkle:=hK.le
        have hl3:=HLI.out.1
        have hll:Hid (l.length≤100000):=by show _≤_;rw[HL.out,List.length_take];omega
        clear hwk hD hl3
        by_cases hlt:h<(teamsI m i)[k].length
        ·obtain⟨ch,oh,rowh,hixh, -,hrrh,hwh⟩:=SlF.rowAt (P:=Tryz.prog) hK (plainF_firm _) Tryz.underlying36 size_int (i:=h) hlt
         have eh:rowh=[.int .i64 (teamsI m i)[k][h]]:=hrrh
         subst eh
         have HH:=Lib.hid ((hwh _ (Below.refl _ _)).1 0 _ rfl)
         have HLS:Hid (l++[(teamsI m i)[k][h]]=(teamsI m i)[k].take (h+1)):=by show _=_;rw[List.take_add_one,List.getElem?_eq_getElem hlt,HL.out];rfl
         generalize (teamsI m i)[k][h]=x at HH HLS
         clear hwh hK HL
         go_wp2_with (first|(with_reducible (first|refine wC HK.out ?_|refine wC HH.out ?_|(refine w_ (q_rowv M ?_);clear M;intro q w M)))|(refine w_ (q_app (R:=intF) (plainF_firm _) M 1 rfl _ rfl (by rfl) (by rfl) hll.out ?_);clear M;intro ra2 rc2 w M;(try simp only[List.set_cons_zero,List.set_cons_succ]at M)))
         go_roundg ((teamsI m i)[k].length - (h+1))
         case measure=>omega
         case rel=>exact⟨h+1,l++[x],_,_,by omega,by rw[List.length_append];rfl,by go_num,by(have M2:=M.drop);(rw[List.length_append];exact M2),HLS⟩
        ·have HLE:Hid (l=(teamsI m i)[k]):=by show _=_;rw[HL.out,List.take_of_length_le (by omega)]
         have hN2:Hid (N2.length≤100000000):=by
          show _≤_
          rw[HN2.out]
          exact Nat.le_trans (flatI_le HKL.out (by omega)) (Nat.le_trans HBI.out (by decide))
         clear hK HL
         go_upto_region 18 with(first|(with_reducible (first|refine wC HK.out ?_|(refine w_ (q_rowv M ?_);clear M;intro q w M)))|(refine w_ (q_app (R:=intF) (plainF_firm _) M 1 rfl _ rfl (by rfl) (by rfl) hll.out ?_);clear M;intro ra2 rc2 w M;(try simp only[List.set_cons_zero,List.set_cons_succ]at M)))
         replace M:=M.drop
         obtain⟨ra5,rc5,e5,M⟩:=M.done (plainF_firm _) (by omega)
         injection e5 with e6 e7 e8
         subst e6 e8
         clear e7
         rw[show(l++[(j:Int)]).length=l.length+1 by simp]at M
         go_wp2_with (first|(with_reducible (refine w_ (q_rowv M ?_);clear M;intro q w M))|(refine w_ (q_appW (R:=nsF) nsF_firm M 2 rfl (l++[(j:Int)]) (nsF_mk (M.dat_ (i:=1) rfl)) (by rfl) (by rfl) hN2.out ?_);clear M;intro ra2 rc2 w M;(try simp only[List.set_cons_zero,List.set_cons_succ]at M)))
         go_roundg (m - (j+1))
         case measure=>omega
         case rel=>exact⟨j+1,N2++[l++[(j:Int)]],_,_,by omega,by rw[List.length_append];rfl,by go_num,by(have M2:=M.drop.drop);(rw[List.length_append];exact M2),Lib.hid (by rw[row_snoc,←List.append_assoc,←HN2.out,HLE.out])⟩
      ·have HN3:Hid (N2=((teamsI m i).take (k+1)).flatMap (extI m)):=by
        have e:j=m:=by omega
        subst e
        show _=_
        rw[flatI_snoc HKL.out,HN2.out]
        rfl
       clear HN2
       go_wp2_with (with_reducible (first|refine wq M ?_|(refine wS M ?_;clear M;intro w M)|(refine wV M ?_;clear M;intro z w M)|(refine wR M ?_;clear M;intro q w M)))
       go_roundg ((teamsI m i).length - (k+1))
       case measure=>omega
       case rel=>exact⟨k+1,_,_,_,by omega,rfl,by go_num,M,HN3⟩
    ·have HN3:N=teamsI m (i+1):=by
      rw[HN.out,List.take_of_length_le (by omega)]
      rfl
     subst HN3
     clear HN
     go_wp2_with (with_reducible (first|refine wq M ?_|(refine wS M ?_;clear M;intro w M)|(refine wV M ?_;clear M;intro z w M)|(refine wR M ?_;clear M;intro q w M)))
     go_roundg (n - (i+1))
     case measure=>omega
     case rel=>exact⟨i+1,_,_,by omega,rfl,by go_num,M.skip⟩
  ·have e:i=n:=by omega
   subst e
   go_wp2_with (with_reducible (first|refine wq M ?_|(refine wS M ?_;clear M;intro w M)|(refine wV M ?_;clear M;intro z w M)|(refine wR M ?_;clear M;intro q w M)))
   go_ret
   exact⟨_,_,rfl,M.new,M.slf nsF_firm (i:=0) rfl (by omega)⟩
end
end Go.Proofs.YtfahleafppfkaaaGreatDoor
