/-
  Queues of texts, as parts of a function's own memory.
-/
import Derived.Test.YtncmghnhfipklaaGreatDoorPw34
namespace Go.Proofs.YtncmghnhfipklaaGreatDoor
open Go.RowKit
set_option linter.unusedVariables false
set_option linter.unusedSimpArgs false
def QueW(g off cap:Nat)(xs:List ByteArray)(w:World):Prop:=xs.length≤cap∧cap≤maxLen∧ ∃ cs t,Own g cs t w∧off+cap≤cs.length∧ ∀ i (h:i<xs.length),cs[off+i]?=some (.string xs[i])
def que(g off cap:Nat)(xs:List ByteArray):Ent:=⟨fun y=>some g=some y,fun _ w=>QueW g off cap xs w⟩
theorem que_firm(g off cap:Nat)(xs:List ByteArray):(que g off cap xs).firm:=fun F G w w' _ _ hz hlt h=>by
 obtain⟨h1,h2,cs,t,h3,h4⟩:=h
 exact⟨h1,h2,cs,t,(hz g rfl (hlt g rfl)).trans h3,h4⟩
theorem laid_one(cs:List Value)(o:Nat)(v:Value)(h:o<cs.length):laid cs o [v]=cs.set o v:=by
 unfold laid
 rw[List.set_eq_take_append_cons_drop,if_pos h]
 simp
section
variable {P:Program} {o:Oper} {a:Act} {Q:Exit→Act→World→Prop} {K:Act→World→Prop}
variable {At:PS→World→Prop} {b:Nat} {u w:World} {s:PS} {L:List Ent}
theorem Mem.asQue{q:Nat}{s1:ByteArray}{t:TypeId}(M:Mem At b u w s (own q [.string s1] t::L)):Mem At b u w s (que q 0 1 [s1]::L):=
 M.turn _ (que_firm _ _ _ _) (fun z hz=>hz) (fun F G _ _ h=>⟨Nat.le_refl _,by decide,_,_,h,Nat.le_refl _,fun i hi=>by
  have e:i=0:=by simpa using hi
  subst e
  rfl⟩)
theorem Mem.quePop{i g off cap:Nat}{x:ByteArray}{xs:List ByteArray}(M:Mem At b u w s L)(hi:L[i]?=some (que g off cap (x::xs))):Mem At b u w s (L.set i (que g (off+1) (cap - 1) xs)):=
 M.alter _ hi (que_firm _ _ _ _) (fun z hz=>hz) (fun F G _ _ h=>by
  obtain⟨h1,h2,cs,t,h3,h4,h5⟩:=h
  simp only[List.length_cons]at h1
  refine⟨by omega,by omega,cs,t,h3,by omega,fun j hj=>?_⟩
  have:=h5 (j+1) (by simp;omega)
  rw[Nat.add_assoc,Nat.add_comm 1 j]
  simpa using this)
theorem Mem.queHead{i g off cap:Nat}{x:ByteArray}{xs:List ByteArray}(M:Mem At b u w s L)(hi:L[i]?=some (que g off cap (x::xs))):w.cell? ⟨g,off,none⟩=some (.string x):=by
 have h:QueW g off cap (x::xs) w:=M.say _ (Mem.of_get hi)
 obtain⟨-, -,cs,t,h3, -,h5⟩:=h
 rw[h3.cell]
 exact h5 0 (by simp)
theorem Mem.queLe{i g off cap:Nat}{xs:List ByteArray}(M:Mem At b u w s L)(hi:L[i]?=some (que g off cap xs)):xs.length≤cap∧cap≤maxLen:=by
 have h:QueW g off cap xs w:=M.say _ (Mem.of_get hi)
 exact⟨h.1,h.2.1⟩
theorem op_quePush(M:Mem At b u w s L){t e:Nat}(hT:RowT P t e 1)(sl x:Operand)(ho:o.op= .call {callee:= .builtin .append,args:= #[sl,x],argTypes:= #[t,t]})(hty:o.type=t)
  {g off cap n i q:Nat}{xs:List ByteArray}{y:ByteArray}{te:TypeId}(hs:a.eval sl= .slice (some ⟨g,off,none⟩) n cap)(hn:n=xs.length)(hx:a.eval x= .slice (some ⟨q,0,none⟩) 1 1)(hi:L[i]?=some (que g off cap xs))(hq:own q [.string y] te∈L)(hsm:xs.length≤1000001)
  (h: ∀ g' off' cap' w',Mem At b u w' s (L.set i (que g' off' cap' (xs++[y])))→K (a.put o.dst (.slice (some ⟨g',off',none⟩) (n+1) cap')) w'):o.wp P a w K Q:=by
 subst hn
 obtain⟨g1,ti,z,g2,g3,g4,g5,g6,g7,g8,g9⟩:=hT.open
 have hQ:QueW g off cap xs w:=M.say _ (Mem.of_get hi)
 obtain⟨h1,h2,cs,t0,h3,h4,h5⟩:=hQ
 have hO:=M.own_ hq
 have hlow:=M.low _ (Mem.of_get hi) g rfl
 have hbl:b<w.heap.size:=Nat.lt_of_lt_of_le M.lt M.size
 have hgb:g≠b:=by have:=M.lt;omega
 by_cases hr:xs.length+1≤cap
 ·have hrun:=run_append_room_cells (P:=P) w t t e ti g1 g2 g off xs.length cap ⟨q,0,none⟩ 1 1 [.string y] (by rw[g4];rfl) (fun j c hj=>by rw[Go.WideShapes.add_plain,Nat.zero_add,hO.cell];exact hj) (fun c hc=>by rw[List.mem_singleton.1 hc];rfl) hr
   (fun j hj=>by
    have e0:j=0:=by simpa using hj
    subst e0
    rw[g4,Nat.mul_one,Nat.add_zero,h3.cell,List.getElem?_eq_getElem (by omega)];rfl)
   (fun j hj=>h3.frozen _)
  rw[g4,Nat.mul_one]at hrun
  have hput:Put g w (w.setCells g (off+xs.length) [.string y]):=Put.setCells _ _ _
  have hown:Own g (laid cs (off+xs.length) [.string y]) t0 (w.setCells g (off+xs.length) [.string y]):=Own.setCells [.string y] (off+xs.length) cs w h3 (by simp;omega)
  rw[laid_one _ _ _ (by omega)]at hown
  refine wp_append_run sl x t ho hty hs hx hrun ?_
  refine h g off cap _ (M.setAt hi (M.stay s w _ (hput.rest b (fun e=>hgb e.symm)) M.at_) (M.but.puts hput hlow.1 M.lt) (by rw[hput.size];exact Nat.le_refl _) (fun k _ _ hk2=>hput.rest k (fun e=>hk2 (by rw[e];rfl))) (que_firm _ _ _ _) (fun y hy=>?_) (fun y hy=> .inr hy) (fun G _ _=>?_))
  ·have e:g=y:=by injection hy
   subst e
   exact⟨hlow.1,by rw[hput.size];exact hlow.2⟩
  ·refine⟨by simpa using hr,h2,_,_,hown,by simpa using h4,fun j hj=>?_⟩
   rw[List.getElem?_set]
   simp only[List.length_append,List.length_cons,List.length_nil]at hj
   by_cases hjx:j=xs.length
   ·subst hjx
    rw[if_pos rfl,if_pos (by omega)]
    simp
   ·rw[if_neg (by omega),h5 j (by omega)]
    congr 2
    rw[List.getElem_append_left]
 ·obtain⟨v',w',hrun,ho',hg⟩:=run_append_arg_grows (P:=P) w t t e ti z 1 ti.bytes g1 g2 g3 g4 rfl g5 g6 ⟨g,off,none⟩ xs.length cap (xs.map .string) (by simp) (fun j c hj=>by
    rw[Go.WideShapes.add_plain,h3.cell]
    rw[List.getElem?_map]at hj
    cases hx:xs[j]? with
    |none=>rw[hx]at hj;cases hj
    |some sx=>
     rw[hx]at hj
     obtain⟨hjl,hje⟩:=List.getElem?_eq_some_iff.1 hx
     rw[h5 j hjl,hje]
     exact hj) ⟨q,0,none⟩ 1 1 [.string y] (by simp) (fun j c hj=>by rw[Go.WideShapes.add_plain,Nat.zero_add,hO.cell];exact hj) (by omega) (by unfold maxLen;omega) (Nat.le_trans (Nat.mul_le_mul_left _ g9) (by omega))
  refine wp_append_run sl x t ho hty hs hx hrun ?_
  rcases ho'.2 with⟨_,h0⟩|⟨g',cap',cur,rfl,hg',hh,hnc,hcm,hsz,htk⟩
  ·omega
  ·have hlt' :g' <w'.heap.size:=(Array.getElem?_eq_some_iff.1 hh).1
   refine h g' 0 cap' w' (M.setAt hi (M.stay s w w' (hg.block b hbl (by simp)) M.at_) (M.but.step ⟨hg.os,hg.tape,hg.output,hg.size,fun k hk=>hg.block k hk (by simp)⟩ (Nat.le_of_lt hbl)) hg.size (fun k hk _ _=>hg.block k hk (by simp)) (que_firm _ _ _ _) (fun y hy=>?_) (fun y hy=>?_) (fun G _ _=>?_))
   ·have e:g' =y:=by injection hy
    subst e
    exact⟨Nat.le_trans M.size hg',hlt'⟩
   ·have e:g' =y:=by injection hy
    subst e
    exact .inl hg'
   ·refine⟨by simpa using hnc,hcm,cur.toList,e,by unfold Own;simpa using hh,by simp;omega,fun j hj=>?_⟩
    simp only[List.length_append,List.length_cons,List.length_nil]at hj
    have hk:(cur.toList.take ((xs.length+1)*1))[j]?=(xs.map Value.string++[Value.string y])[j]?:=by rw[htk]
    rw[List.getElem?_take,if_pos (by omega)]at hk
    rw[Nat.zero_add,hk]
    by_cases hjx:j=xs.length
    ·subst hjx
     simp
    ·rw[List.getElem?_append_left (by simp;omega),List.getElem?_map,List.getElem?_eq_getElem (by omega)]
     simp only[Option.map_some]
     congr 2
     rw[List.getElem_append_left]
end
section
variable {P:Program} {dst:Option Tmp} {pos:String} {after:Array Edge} {g0:Option (Nat×Bool)} {l:List Value} {ds:List Deferred} {Q:Exit→Act→World→Prop} {K:Act→World→Prop}
variable {At:PS→World→Prop} {b:Nat} {u w:World} {s:PS} {L:List Ent} {ty j j' :Nat}
theorem q_push(M:Mem At b u w s L){e g off cap n iq q:Nat}{xs:List ByteArray}{y:ByteArray}{te:TypeId}[hT:RowI P ty e 1][hs:Nth l j (.slice (some ⟨g,off,none⟩) n cap)][hx:Nth l j' (.slice (some ⟨q,0,none⟩) 1 1)][hq:Has L q iq [.string y] te](i:Nat)(hi:L[i]?=some (que g off cap xs))(hn:n=xs.length)(hsm:xs.length≤1000001)
  {F:Nat→Nat→Nat→List Value}[hd: ∀ g' off' cap',PutI l dst (.slice (some ⟨g',off',none⟩) (n+1) cap') (F g' off' cap')](h: ∀ g' off' cap' w',Mem At b u w' s (L.set i (que g' off' cap' (xs++[y])))→K ⟨(F g' off' cap').toArray,ds⟩ w'):
  OWP P ⟨dst,.call {callee:= .builtin .append,args:= #[.tmp j,.tmp j'],argTypes:= #[ty,ty]},ty,pos,after,g0⟩ ⟨l.toArray,ds⟩ w K Q:=
 owp_of (op_quePush M hT.row _ _ rfl rfl (eval_tmp hs.nth) hn (eval_tmp hx.nth) hi (Mem.of_get hq.at_) hsm (fun g' off' cap' w' M' =>by rw[(hd g' off' cap').put];exact h g' off' cap' w' M'))
end
section
variable {g:Nat} {F:Nat→Prop} {w0:World} {a2:Option Addr} {n2 c2:Nat} {rs:List Rul}
theorem idx_zero{gq oq n cq:Nat}(hn:0<n): ∀ wx,(Instr.indexAt 84 (.slice (some ⟨gq,oq,none⟩) n cq) (.int .i64 0)).run Tryz.prog wx= .ok (.pointer (some ⟨gq,oq,none⟩)) wx:=fun wx=>by
 have hs:SizeIs Tryz.prog 9 1:=fun w=>by kernel_rfl
 have hsw:=hs wx
 simp[Instr.indexAt,run_underlying Tryz.underlying84,asIntOf,hsw,Addr.add]
 omega
theorem Mem.quePop0{At:PS→World→Prop}{b:Nat}{u w:World}{s:PS}{L:List Ent}{gq oq:Nat}{x:ByteArray}(M:Mem At b u w s (que gq oq 1 [x]::L)):Mem At b u w s (que gq oq (1 - 1) []::L):=
 M.turn _ (que_firm _ _ _ _) (fun z hz=>hz) (fun F G _ _ h=>by
  obtain⟨h1,h2,cs,t,h3,h4,h5⟩:=h
  exact⟨Nat.le_refl _,by decide,cs,t,h3,by omega,fun j hj=>absurd hj (Nat.not_lt_zero j)⟩)
def ReachPost(rs:List Rul)(fr:ByteArray)(w:World):Ending→World→Prop:=fun e w' =>
 ∃ zm m f,e= .returned (.map (some zm))∧Below w.heap.size w w' ∧MapOf Tryz.prog 9 w' zm m f∧ ∀ s,f s=if comesB rs rs.length s fr=true then some (.bool true)else none
set_option maxRecDepth 8000 in
set_option maxHeartbeats 8000000 in
theorem reach_any(hg:g<w0.heap.size)(fr:ByteArray)(zb:Nat)(hz:zb<w0.heap.size)(h1:w0.cell? ⟨zb,1,none⟩=some (.slice a2 n2 c2))(X2:SlF F w0 7 rulF a2 n2 c2 rs)(hes: ∀ x∈rs,x.etype.size≤maxLen)(hn:rs.length≤1000000):Calls Tryz.prog 42 #[.string fr,.pointer (some ⟨zb,0,none⟩)] w0 (ReachPost rs fr w0):=by
 have M:=Mem.begin hg ⟨0,0⟩
 have N2:=Lib.hid X2.len
 have hle2:=X2.le
 have HB1:Hid (∀ wx,Below w0.heap.size w0 wx→wx.cell? ⟨zb,1,none⟩=some (.slice a2 n2 c2)):=fun wx hb=>by rw[(bcell hb).1 _ _ hz];exact h1
 have HX:=Lib.hid X2
 have HES:=Lib.hid hes
 have HG:=Lib.hid hg
 replace hn:=Lib.hid hn
 clear hg hz h1 X2 hes
 go_enter Tryz.func42,Tryz.ntmps42
 go_wp2_with (with_reducible (first|(refine w_ (q_map (t:=91) M ?_);clear M;intro zm w M)|(refine w_ (q_row1 M ?_);clear M;intro q w M;replace M:=M.asQue)))
 go_loopg [5] (1+rs.length) (fun fu v wr=> ∃ (gq oq cq n:Nat) (xs seen:List ByteArray) (m:Nat) (ft:MapF),v= .slice (some ⟨gq,oq,none⟩) n cq∧Hid (n=xs.length)∧Mem (StaysB g w0) g w0 wr ⟨0,0⟩ (que gq oq cq xs::mp Tryz.prog 9 zm m ft::[])∧Hid (m≤seen.length)∧Hid (TakF ft seen)∧Hid (Srch rs fr seen xs none)∧Hid (xs.length+unseen rs seen≤fu))
 case atStart=>exact⟨_,_,_,1,[fr],[],0,noneF,rfl,Lib.hid rfl,M,Lib.hid (Nat.le_refl _),takF_none,srch_start fr,(srch_start fr).small⟩
 case round=>
  clear M
  obtain⟨gq,oq,cq,n,xs,seen,m,ft,rfl,HN,M,HM,HT,HS,HF⟩:=hrel
  cases xs with
  |nil=>
   have hn0:n=0:=HN.out
   subst hn0
   have HV:Hid (∀ s,ft s=if comesB rs rs.length s fr=true then some (.bool true)else none):=fun s=>by rw[HT.out s,HS.out.ends s]
   clear HN HT HS HF
   go_wp2_with (with_reducible (first|refine wq M ?_|(refine wS M ?_;clear M;intro w M)|(refine wV M ?_;clear M;intro z w M)|(refine wR M ?_;clear M;intro q w M)))
   go_ret
   exact⟨zm,m,ft,rfl,M.new,M.map_ (i:=1) rfl,HV.out⟩
  |cons x xs=>
   have hn1:n=xs.length+1:=HN.out
   have hcq:=M.queLe (i:=0) rfl
   have hc1:xs.length+1≤cq:=hcq.1
   have hix:=idx_zero (gq:=gq) (oq:=oq) (n:=n) (cq:=cq) (by omega)
   have hnp:decide ((0:Int)<n)=true:=by simp;omega
   have HS2:=Lib.hid HS.out.pop
   obtain⟨f0,hf0⟩: ∃ f0,f0=gk - 1:=⟨_,rfl⟩
   have HF2:Hid (xs.length+unseen rs seen≤f0):=by have:=HF.out;simp only[List.length_cons]at this;show _≤_;omega
   have hgk:1≤gk:=by have:=HF.out;simp only[List.length_cons]at this;omega
   have hlo:1≤n:=by omega
   have hhi:n≤cq:=by omega
   have hxl:Hid (cq=1→xs=[]):=fun h=>List.eq_nil_of_length_eq_zero (by omega)
   have HN1:Hid (n - 1=xs.length):=by show _=_;omega
   replace hn1:=Lib.hid hn1
   clear HS HF hcq hc1
   go_upto_region 5 with(with_reducible (refine wC (M.queHead (i:=0) rfl) ?_))
   go_cut [5] (fun v wx=> ∃ oq',v= .slice (some ⟨gq,oq',none⟩) (n - 1) (cq - 1)∧Mem (StaysB g w0) g w0 wx ⟨0,0⟩ (que gq oq' (cq - 1) xs::mp Tryz.prog 9 zm m ft::[]))
   case first=>
    by_cases hq1:cq=1
    ·have hx0:=hxl.out hq1
     subst hq1
     subst hx0
     go_wp2_with fail
     go_meet
     case rel=>exact⟨oq,by(have e:n=1:=hn1.out;rw[e]),M.quePop0⟩
    ·have hq2: ¬ cq - 1=0:=by omega
     go_wp2_with fail
     go_meet
     case rel=>exact⟨oq+1,rfl,M.quePop (i:=0) rfl⟩
   case rest=>
   clear M
   obtain⟨oq',rfl,M⟩:=hcut
   clear hix
   go_wp2_with (with_reducible refine wC (HB1.out _ M.new) ?_)
   have HSM:Hid (xs.length+unseen rs seen≤f0):=HF2
   go_loopg [5,24] n2 (fun fu v i wr=> ∃ (j gq oq cq n:Nat) (xs seen:List ByteArray) (m:Nat) (ft:MapF),j+fu=n2∧v= .slice (some ⟨gq,oq,none⟩) n cq∧i= .int .i64 j∧Hid (n=xs.length)∧Mem (StaysB g w0) g w0 wr ⟨0,0⟩ (que gq oq cq xs::mp Tryz.prog 9 zm m ft::[])∧Hid (m≤seen.length)∧Hid (TakF ft seen)∧Hid (Srch rs fr seen xs (some (x,j)))∧Hid (xs.length+unseen rs seen≤f0))
   case atStart=>exact⟨0,gq,oq',cq - 1,n - 1,xs,seen,m,ft,by omega,rfl,rfl,HN1,M,HM,HT,HS2,HF2⟩
   case round=>
    clear M HN HN1 HM HT HS2 HF2 HSM hxl hn1 hnp
    clear hlo hhi
    clear seen ft
    obtain⟨j,gq,oq,cq,n,xs,seen,m,ft,hj,rfl,rfl,HN,M,HM,HT,HS,HF⟩:=hrel
    by_cases hlt:j<n2
    ·have hkl:j<rs.length:=by have:=N2.out;omega
     obtain⟨cr,or,rowr,hixr, -,hrrr,hwr⟩:=SlF.rowAt (P:=Tryz.prog) HX.out rulF_firm Tryz.underlying23 size_rul (i:=j) hkl
     have hes:Hid (rs[j].etype.size≤maxLen):=HES.out _ (List.getElem_mem hkl)
     have HU:Hid (∀ wx,Below w0.heap.size w0 wx→Calls Tryz.prog 43 #[.agg rowr.toArray,.string x] wx fun e w' =>e= .returned (.bool (speaks rs[j] x))∧Below wx.heap.size wx w'):=fun wx hb=>
      uses_any (Nat.lt_of_lt_of_le HG.out hb.size) rs[j] rowr (rulF_firm _ _ _ _ _ _ (Same.below hb) hrrr) x
     obtain⟨b1,m1,e1,b2,m2,e2,b3,m3,e3,b4,m4,e4,b6,m6,e6,rfl, -⟩:=hrrr
     have HR:=Lib.hid (fun wx hb=>(hwr wx hb).1)
     have HPS:=Lib.hid (HS.out.pass hkl)
     have HAD:=Lib.hid (HS.out.add hkl)
     have hsm:Hid (xs.length≤1000001):=by have:=HS.out.small;have:=hn.out;show _≤_;omega
     have hmm:Hid (m<maxLen):=by have:=HM.out;have:=HS.out.few;have:=hn.out;show _<_;unfold maxLen;omega
     have hcnt:Hid (inS seen rs[j].etype=false→unseen rs (seen++[rs[j].etype])+1≤unseen rs seen):=unseen_snoc (List.getElem_mem hkl)
     have HLB0:Hid ((ft rs[j].etype).getD (.bool false)= .bool (inS seen rs[j].etype)):=by show _=_;rw[HT.out];cases inS seen rs[j].etype<;>rfl
     clear hwr HS
     generalize rs[j]=y at HU HR HPS HAD hes HLB0 hcnt
     clear hkl
     unfold rulC at HR HU
     cases h1:emS y.etype with
     |true=>
      have he0:y.etype.toList=[]:=by simpa[emS]using h1
      have HSN:=Lib.hid (HPS.out (fun h=>absurd (h1.symm.trans h) (by decide)))
      clear HPS HAD h1
      go_wp2_with (with_reducible (first|(refine wV M ?_;clear M;intro zx w M)|refine wq M ?_|(refine wS M ?_;clear M;intro w M)|refine wA (HR.out _ M.new) ?_))
      go_roundg (n2 - (j+1))
      case measure=>omega
      case rel=>exact⟨j+1,_,_,_,_,_,_,_,_,by omega,rfl,by go_num,HN,M.drop,HM,HT,HSN,HF⟩
     |false=>
      have he0:y.etype.toList.isEmpty=false:=h1
      cases h2:inS seen y.etype with
      |true=>
       have HLB:=HLB0
       rw[h2]at HLB
       have HSN:=Lib.hid (HPS.out (fun _ _=>h2))
       clear HPS HAD h1 h2 HLB0
       go_wp2_with (first|(with_reducible (first|(refine wV M ?_;clear M;intro zx w M)|refine wq M ?_|(refine wS M ?_;clear M;intro w M)|refine wA (HR.out _ M.new) ?_))|((with_reducible refine o_listg fun K hK=>?_);refine q_lookb (M.map_ (i:=2) rfl) hes.out HLB.out ?_;refine hK _ _ ?_;clear hK K))
       go_roundg (n2 - (j+1))
       case measure=>omega
       case rel=>exact⟨j+1,_,_,_,_,_,_,_,_,by omega,rfl,by go_num,HN,M.drop,HM,HT,HSN,HF⟩
      |false=>
       have HLB:=HLB0
       rw[h2]at HLB
       cases h3:speaks y x with
       |false=>
        rw[h3]at HU
        have HSN:=Lib.hid (HPS.out (fun _ h=>absurd (h3.symm.trans h) (by decide)))
        clear HPS HAD h1 h2 h3 HLB0
        go_wp2_with (first|(with_reducible (first|(refine wV M ?_;clear M;intro zx w M)|refine wq M ?_|(refine wS M ?_;clear M;intro w M)|refine wA (HR.out _ M.new) ?_))|((with_reducible refine o_listg fun K hK=>?_);refine q_lookb (M.map_ (i:=2) rfl) hes.out HLB.out ?_;refine hK _ _ ?_;clear hK K)|(go_at_call 43;with_reducible refine(HU.out _ M.new).mono ?_;rintro e w5 ⟨rfl,hb5⟩;replace M:=M.below hb5;clear hb5))
        go_roundg (n2 - (j+1))
        case measure=>omega
        case rel=>exact⟨j+1,_,_,_,_,_,_,_,_,by omega,rfl,by go_num,HN,M.drop,HM,HT,HSN,HF⟩
       |true=>
        rw[h3]at HU
        have HSN:=Lib.hid (HAD.out h1 h2 h3)
        have HFN:Hid ((xs++[y.etype]).length+unseen rs (seen++[y.etype])≤f0):=by have:=HF.out;have:=hcnt.out h2;show _≤_;simp only[List.length_append,List.length_cons,List.length_nil];omega
        have HMN:Hid (m+1≤(seen++[y.etype]).length):=by have:=HM.out;show _≤_;simp only[List.length_append,List.length_cons,List.length_nil];omega
        have HTN:=Lib.hid (HT.out.snoc y.etype)
        have HNN:Hid (n+1=(xs++[y.etype]).length):=by have:=HN.out;show _=_;simp only[List.length_append,List.length_cons,List.length_nil];omega
        clear HPS HAD h1 h2 h3 HLB0
        go_wp2_with (first|(with_reducible (first|(refine wV M ?_;clear M;intro zx w M)|(refine w_ (q_row1 M ?_);clear M;intro q w M)|refine wq M ?_|(refine wS M ?_;clear M;intro w M)|refine wA (HR.out _ M.new) ?_|(refine w_ (q_mset (v:= .bool true) rfl (M.map_ (i:=2) rfl) hmm.out hes.out ?_);intro wu hou hbu;replace M:=M.remap (i:=2) rfl hbu hou;clear hou hbu;(simp only[List.set_cons_zero,List.set_cons_succ]at M))|(refine w_ (q_push M 2 rfl HN.out hsm.out ?_);clear M;intro gq2 oq2 cq2 w M;(simp only[List.set_cons_zero,List.set_cons_succ]at M))))|((with_reducible refine o_listg fun K hK=>?_);refine q_lookb (M.map_ (i:=2) rfl) hes.out HLB.out ?_;refine hK _ _ ?_;clear hK K)|(go_at_call 43;with_reducible refine(HU.out _ M.new).mono ?_;rintro e w5 ⟨rfl,hb5⟩;replace M:=M.below hb5;clear hb5))
        go_roundg (n2 - (j+1))
        case measure=>omega
        case rel=>exact⟨j+1,_,_,_,_,_,_,_,_,by omega,rfl,by go_num,HNN,M.drop.drop,HMN,HTN,HSN,HFN⟩
    ·have hjn:j=rs.length:=by have:=N2.out;omega
     have HSN:Hid (Srch rs fr seen xs none):=by
      have h:=HS.out
      rw[hjn]at h
      exact h.next
     clear HS
     go_wp2_with (with_reducible (first|refine wq M ?_|(refine wS M ?_;clear M;intro w M)|(refine wV M ?_;clear M;intro z w M)|(refine wR M ?_;clear M;intro q w M)))
     go_roundg f0
     case measure=>omega
     case rel=>exact⟨_,_,_,_,_,_,_,_,rfl,HN,M,HM,HT,HSN,HF⟩
end
theorem oneG:OneT Tryz.prog 101:=⟨by kernel_rfl,_,Tryz.underlying101,rfl⟩
instance :OneI Tryz.prog 101:=⟨oneG⟩
theorem zG:(Tryz.prog.info? 101).map (·.zero)=some (some .nilFunc):=by kernel_rfl
theorem look_of{f:MapF}{c:ByteArray→Bool}(h: ∀ s,f s=if c s=true then some (.bool true)else none)(s:ByteArray):(f s).getD (.bool false)= .bool (c s):=by
 rw[h];cases c s<;>rfl
section
variable {At:PS→World→Prop} {b:Nat} {u w:World} {s:PS} {L:List Ent}
theorem Mem.cell1{i z:Nat}{c0 c:Value}{cs:List Value}{t:TypeId}(M:Mem At b u w s L)(hi:L[i]?=some (own z (c0::c::cs) t)):w.cell? ⟨z,1,none⟩=some c:=by
 rw[(M.own_ (Mem.of_get hi)).cell];rfl
end
section
variable {g:Nat} {F G:Nat→Prop} {ao:Option Addr} {n cap:Nat} {w0:World} {a2:Option Addr} {n2 c2:Nat} {rs:List Rul}
set_option maxRecDepth 8000 in
set_option maxHeartbeats 8000000 in
theorem ends_any(hg:g<w0.heap.size)(t:Typ)(so:Option Addr)(sn sc:Nat)(hnm:t.name.size≤maxLen)(zf zb:Nat)(hzf:zf<w0.heap.size)(hzb:zb<w0.heap.size)(hf:w0.cell? ⟨zf,0,none⟩=some (.func (Fn.func 42) #[] #[.pointer (some ⟨zb,0,none⟩)]))(h1:w0.cell? ⟨zb,1,none⟩=some (.slice a2 n2 c2))(X2:SlF F w0 7 rulF a2 n2 c2 rs)(hes: ∀ x∈rs,x.etype.size≤maxLen)(hn:rs.length≤1000000):
  Calls Tryz.prog 45 #[.agg (typC t so sn sc).toArray,.pointer (some ⟨zf,0,none⟩)] w0 fun e w' =>e= .returned (.bool (comesB rs rs.length t.name t.name))∧Below w0.heap.size w0 w' :=by
 have M:=Mem.begin hg ⟨0,0⟩
 have HF0:Hid (∀ wx,Below w0.heap.size w0 wx→wx.cell? ⟨zf,0,none⟩=some (.func (Fn.func 42) #[] #[.pointer (some ⟨zb,0,none⟩)])):=fun wx hb=>by rw[(bcell hb).1 _ _ hzf];exact hf
 have HRC:Hid (∀ wx,Below w0.heap.size w0 wx→Calls Tryz.prog 42 #[.string t.name,.pointer (some ⟨zb,0,none⟩)] wx (ReachPost rs t.name wx)):=fun wx hb=>
  reach_any (Nat.lt_of_lt_of_le hg hb.size) t.name zb (Nat.lt_of_lt_of_le hzb hb.size) (by rw[(bcell hb).1 _ _ hzb];exact h1) (X2.below rulF_firm hb) hes hn
 replace hnm:=Lib.hid hnm
 unfold typC
 generalize t.name=nm at HRC hnm ⊢
 clear hg hzf hzb hf h1 X2 hes hn
 go_enter Tryz.func45,Tryz.ntmps45
 go_wp2_with (with_reducible (refine wB (L:=[]) M ?_;clear M;intro za w1 M))
 (refine wp_region_any (by kernel_rfl) ?_;(try(change wpAny _ _ _ _ _ _ _ (World.drew _)));replace M:=M.drew;generalize World.drew _=w at M ⊢;have S:=St.o;((refine tk 1 (v:=?_) rfl (by kernel_rfl) rfl ?_ ?_;rotate_left;focus(intro w;go_simp;try with_reducible rfl));(try go_simp);(refine tk 4 (v:=?_) rfl (by kernel_rfl) rfl ?_ ?_;rotate_left;focus(intro w;go_simp;try with_reducible rfl));(try go_simp);replace S:=S.add 18;refine rd3 0 2 5 (by kernel_rfl) rfl rfl ?_ rfl rfl ?_ rfl rfl ?_<;>intro K hK);all_goals(first|(refine o_dst (some 4) ?_;(refine q_cellat (HF0.out _ M.new) ?_);(all_goals(refine hK _ _ ?_;clear hK K;replace S:=S.add 1)))|(refine o_dst (some 6) ?_;(refine q_get M (by exact rfl) ?_);(all_goals(refine hK _ _ ?_;clear hK K;replace S:=S.add 4)))|(refine o_dst (some 9) ?_;(refine q_get M (by exact rfl) ?_);(all_goals(refine hK _ _ ?_;clear hK K;replace S:=S.add 32))));all_goals(first|(replace S:St 19:=S;refine rd2 2 5 (by kernel_rfl) rfl rfl ?_ rfl rfl ?_<;>intro K hK)|(replace S:St 22:=S;refine rd2 0 5 (by kernel_rfl) rfl rfl ?_ rfl rfl ?_<;>intro K hK)|(replace S:St 50:=S;refine rd2 0 2 (by kernel_rfl) rfl rfl ?_ rfl rfl ?_<;>intro K hK));all_goals(first|(refine o_dst (some 6) ?_;(refine q_get M (by exact rfl) ?_);(all_goals(refine hK _ _ ?_;clear hK K;replace S:=S.add 4)))|(refine o_dst (some 9) ?_;(refine q_get M (by exact rfl) ?_);(all_goals(refine hK _ _ ?_;clear hK K;replace S:=S.add 32)))|(refine o_dst (some 4) ?_;(refine q_cellat (HF0.out _ M.new) ?_);(all_goals(refine hK _ _ ?_;clear hK K;replace S:=S.add 1))));all_goals(first|(replace S:St 23:=S;refine rd2 3 5 (by kernel_rfl) rfl rfl ?_ rfl rfl ?_<;>intro K hK)|(replace S:St 51:=S;refine rd1 2 (by kernel_rfl) rfl rfl ?_<;>intro K hK)|(replace S:St 54:=S;refine rd1 0 (by kernel_rfl) rfl rfl ?_<;>intro K hK));all_goals(first|(refine o_dst (some 7) ?_;(refine owp_of ?_;go_simp;(go_at_call 42;with_reducible refine(HRC.out _ M.new).mono ?_;rintro e w5 hh;unfold ReachPost at hh;obtain⟨zm,mm,ff,he,hb5,hmo,hff⟩:=hh;subst he;replace M:=M.below hb5;clear hb5;have HMO:=Lib.hid hmo;have HLB:=Lib.hid (look_of hff nm);clear hmo hff);(try go_simp));(all_goals(refine hK _ _ ?_;clear hK K;replace S:=S.add 8)))|(refine o_dst (some 9) ?_;(refine q_get M (by exact rfl) ?_);(all_goals(refine hK _ _ ?_;clear hK K;replace S:=S.add 32)))|(refine o_dst (some 6) ?_;(refine q_get M (by exact rfl) ?_);(all_goals(refine hK _ _ ?_;clear hK K;replace S:=S.add 4)))|(refine o_dst (some 4) ?_;(refine q_cellat (HF0.out _ M.new) ?_);(all_goals(refine hK _ _ ?_;clear hK K;replace S:=S.add 1))));all_goals(first|(replace S:St 31:=S;refine rd1 5 (by kernel_rfl) rfl rfl ?_<;>intro K hK)|(replace S:St 55:=S;refine rd1 3 (by kernel_rfl) rfl rfl ?_<;>intro K hK));all_goals(first|(refine o_dst (some 9) ?_;(refine q_get M (by exact rfl) ?_);(all_goals(refine hK _ _ ?_;clear hK K;replace S:=S.add 32)))|(refine o_dst (some 7) ?_;(refine owp_of ?_;go_simp;(go_at_call 42;with_reducible refine(HRC.out _ M.new).mono ?_;rintro e w5 hh;unfold ReachPost at hh;obtain⟨zm,mm,ff,he,hb5,hmo,hff⟩:=hh;subst he;replace M:=M.below hb5;clear hb5;have HMO:=Lib.hid hmo;have HLB:=Lib.hid (look_of hff nm);clear hmo hff);(try go_simp));(all_goals(refine hK _ _ ?_;clear hK K;replace S:=S.add 8))));all_goals(refine rd1 6 (by kernel_rfl) rfl rfl ?_<;>intro K hK);all_goals(refine o_dst (some 10) ?_;(refine q_lookb HMO.out hnm.out HLB.out ?_);(all_goals(refine hK _ _ ?_;clear hK K;replace S:=S.add 64)));all_goals(clear S;((refine tk 7 (v:=?_) rfl (by kernel_rfl) rfl ?_ ?_;rotate_left;focus(intro w;go_simp;try with_reducible rfl));(try go_simp);refine wpAny_done (by kernel_rfl) ?_ _)))
 all_goals go_wp2
 all_goals go_ret
 all_goals exact⟨rfl,M.new⟩
set_option maxRecDepth 8000 in
set_option maxHeartbeats 4000000 in
theorem ixTyp_any(hg:g<w0.heap.size){l:List Typ}(hX:SlF F w0 2 typF ao n cap l)(pr:Typ→Bool)(z:Nat)(HC0: ∀ p∈l,∀ so sn sc wx,Below w0.heap.size w0 wx→Calls Tryz.prog 45 #[.agg (typC p so sn sc).toArray,.pointer (some ⟨z,0,none⟩)] wx fun e w' =>e= .returned (.bool (pr p))∧Below wx.heap.size wx w'):
  Calls Tryz.prog 75 #[.slice ao n cap,.func (Fn.func 45) #[] #[.pointer (some ⟨z,0,none⟩)]] w0 fun e w' =>e= .returned (.int .i64 (placeV (l.findIdx pr) l.length))∧Below w0.heap.size w0 w' :=by
 have NL:=Lib.hid hX.len
 have hle:=hX.le
 have M:=Mem.begin hg ⟨0,0⟩
 have HX:=Lib.hid hX
 have HC0:=Lib.hid HC0
 clear hX hg
 go_enter Tryz.func75,Tryz.ntmps75
 go_wp2_with (with_reducible (first|refine wq M ?_|(refine wS M ?_;clear M;intro w M)|(refine wV M ?_;clear M;intro z w M)|(refine wR M ?_;clear M;intro q w M)))
 go_loopg [8] n (fun f i wr=> ∃ k:Nat,k+f=n∧i= .int .i64 k∧Mem (StaysB g w0) g w0 wr ⟨0,0⟩ []∧Hid (NoB l pr k))
 case atStart=>exact⟨0,by omega,rfl,M,noB_zero _ _⟩
 case round=>
  clear M
  obtain⟨k,hk,rfl,M,HB⟩:=hrel
  by_cases hlt:k<n
  ·have hkl:k<l.length:=by have:=NL.out;omega
   obtain⟨ca,oa,rowa,hixa, -,hrra,hwa⟩:=SlF.rowAt (P:=Tryz.prog) HX.out typF_firm Tryz.underlying22 size_typ (i:=k) hkl
   have HC1:=Lib.hid (HC0.out l[k] (List.getElem_mem hkl))
   have HS:Hid (pr l[k]=true→placeV (l.findIdx pr) l.length=k):=fun h=>place_at HB.out hkl h
   have HT:Hid (pr l[k]=false→NoB l pr (k+1)):=fun h=>noB_succ HB.out hkl h
   obtain⟨p1,q1,s1,ea,u1⟩:=hrra
   subst ea
   have HC:=Lib.hid (HC1.out p1 q1 s1)
   clear HC1
   have HR:=Lib.hid (fun wx hb=>(hwa wx hb).1)
   clear hwa u1 HB
   unfold typC at HR HC
   generalize l[k]=p at HR HC HS HT
   cases hsm:pr p with
   |true=>
    have HV:=Lib.hid (HS.out hsm)
    rw[hsm]at HC
    clear HS HT hsm
    go_wp2_with (first|(with_reducible refine wA (HR.out _ M.new) ?_)|(go_at_call 45;with_reducible refine(HC.out _ M.new).mono ?_;rintro e w5 ⟨rfl,hb5⟩;replace M:=M.below hb5;clear hb5))
    go_ret
    rw[HV.out]
    exact⟨rfl,M.new⟩
   |false=>
    have HV:=Lib.hid (HT.out hsm)
    rw[hsm]at HC
    clear HS HT hsm
    go_wp2_with (first|(with_reducible refine wA (HR.out _ M.new) ?_)|(go_at_call 45;with_reducible refine(HC.out _ M.new).mono ?_;rintro e w5 ⟨rfl,hb5⟩;replace M:=M.below hb5;clear hb5))
    go_roundg (n - (k+1))
    case measure=>omega
    case rel=>exact⟨k+1,by omega,by go_num,M,HV⟩
  ·have HV:Hid (placeV (l.findIdx pr) l.length= -1):=by
    have e:k=l.length:=by have:=NL.out;omega
    exact place_none (e▸HB.out)
   go_wp2_with (with_reducible (first|refine wq M ?_|(refine wS M ?_;clear M;intro w M)|(refine wV M ?_;clear M;intro z w M)|(refine wR M ?_;clear M;intro q w M)))
   go_ret
   rw[HV.out]
   exact⟨rfl,M.new⟩
set_option maxRecDepth 8000 in
set_option maxHeartbeats 4000000 in
theorem conTyp_any(hg:g<w0.heap.size){l:List Typ}(hX:SlF F w0 2 typF ao n cap l)(pr:Typ→Bool)(z:Nat)(HC0: ∀ p∈l,∀ so sn sc wx,Below w0.heap.size w0 wx→Calls Tryz.prog 45 #[.agg (typC p so sn sc).toArray,.pointer (some ⟨z,0,none⟩)] wx fun e w' =>e= .returned (.bool (pr p))∧Below wx.heap.size wx w'):
  Calls Tryz.prog 44 #[.slice ao n cap,.func (Fn.func 45) #[] #[.pointer (some ⟨z,0,none⟩)]] w0 fun e w' =>e= .returned (.bool (l.any pr))∧Below w0.heap.size w0 w' :=by
 have M:=Mem.begin hg ⟨0,0⟩
 have HI:Hid (∀ wx,Below w0.heap.size w0 wx→Calls Tryz.prog 75 #[.slice ao n cap,.func (Fn.func 45) #[] #[.pointer (some ⟨z,0,none⟩)]] wx fun e w' =>e= .returned (.int .i64 (placeV (l.findIdx pr) l.length))∧Below wx.heap.size wx w'):=fun wx hb=>
  ixTyp_any (Nat.lt_of_lt_of_le hg hb.size) (hX.below typF_firm hb) pr z (fun p hp so sn sc wy hby=>HC0 p hp so sn sc wy (hb.trans (hby.mono hb.size)))
 have hge:decide ((0:Int)≤placeV (l.findIdx pr) l.length)=decide (l.findIdx pr<l.length):=by
  unfold placeV
  by_cases h:l.findIdx pr<l.length
  ·rw[if_pos h];simp[h]
  ·rw[if_neg h];simp[h]
 have hany:l.any pr=decide (l.findIdx pr<l.length):=by rw[Bool.eq_iff_iff,decide_eq_true_iff,List.findIdx_lt_length,List.any_eq_true]
 rw[hany,←hge]
 generalize placeV (l.findIdx pr) l.length=v at HI ⊢
 clear hg hX HC0 hge hany
 go_enter Tryz.func44,Tryz.ntmps44
 go_wp2_with (go_at_call 75;with_reducible refine(HI.out _ M.new).mono ?_;rintro e w5 ⟨rfl,hb5⟩;replace M:=M.below hb5;clear hb5)
 go_ret
 exact⟨rfl,M.new⟩
set_option maxRecDepth 8000 in
set_option maxHeartbeats 8000000 in
theorem endless_any(hg:g<w0.heap.size)(bk:Bok)(a1:Option Addr)(n1 c1:Nat)(X1:SlF F w0 2 typF a1 n1 c1 bk.types)(X2:SlF G w0 7 rulF a2 n2 c2 bk.rules)(hts: ∀ t∈bk.types,t.name.size≤maxLen)(hes: ∀ x∈bk.rules,x.etype.size≤maxLen)(hn:bk.rules.length≤1000000):
  Calls Tryz.prog 21 #[.agg #[.slice a1 n1 c1,.slice a2 n2 c2]] w0 fun e w' =>e= .returned (.bool (endB bk))∧Below w0.heap.size w0 w' :=by
 have M:=Mem.begin hg ⟨0,0⟩
 have HE:Hid (∀ (zf zb:Nat) wx,Below w0.heap.size w0 wx→zf<wx.heap.size→zb<wx.heap.size→wx.cell? ⟨zf,0,none⟩=some (.func (Fn.func 42) #[] #[.pointer (some ⟨zb,0,none⟩)])→wx.cell? ⟨zb,1,none⟩=some (.slice a2 n2 c2)→Calls Tryz.prog 44 #[.slice a1 n1 c1,.func (Fn.func 45) #[] #[.pointer (some ⟨zf,0,none⟩)]] wx fun e w' =>e= .returned (.bool (endB bk))∧Below wx.heap.size wx w'):=fun zf zb wx hb hzf hzb hf h1=>
  conTyp_any (Nat.lt_of_lt_of_le hg hb.size) (X1.below typF_firm hb) (fun t=>comesB bk.rules bk.rules.length t.name t.name) zf (fun t ht so sn sc wy hby=>ends_any (Nat.lt_of_lt_of_le hg (Nat.le_trans hb.size hby.size)) t so sn sc (hts t ht) zf zb (Nat.lt_of_lt_of_le hzf hby.size) (Nat.lt_of_lt_of_le hzb hby.size) (by rw[(bcell hby).1 _ _ hzf];exact hf) (by rw[(bcell hby).1 _ _ hzb];exact h1) ((X2.below rulF_firm hb).below rulF_firm hby) hes hn)
 generalize endB bk=eb at HE ⊢
 clear hg X1 X2 hts hes hn
 go_enter Tryz.func21,Tryz.ntmps21
 go_wp2_with (first|(with_reducible (first|(refine wB (L:=[]) M ?_;clear M;intro za w1 M)|(refine w_ (q_varf M zG ?_);clear M;intro zf w M)|refine w_ (q_func _ ?_)|refine wq M ?_|(refine wS M ?_;clear M;intro w M)))|(go_at_call 44;with_reducible refine(HE.out zf za _ M.new (M.lt0 (i:=0) rfl) (M.lt0 (i:=1) rfl) (M.cell0 (i:=0) rfl) (M.cell1 (i:=1) rfl)).mono ?_;rintro e w5 ⟨rfl,hb5⟩;replace M:=M.below hb5;clear hb5))
 go_ret
 exact⟨rfl,M.new⟩
end
end Go.Proofs.YtncmghnhfipklaaGreatDoor
