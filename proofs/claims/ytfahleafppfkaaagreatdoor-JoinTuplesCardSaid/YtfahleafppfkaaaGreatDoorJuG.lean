/-
  Add of join's teams. Printed by jta.py.
-/
import Derived.Test.YtfahleafppfkaaaGreatDoorJuE
import Derived.Test.YtfahleafppfkaaaGreatDoorJuC
import Derived.Test.YtfahleafppfkaaaGreatDoorJuA
namespace Go.Proofs.YtfahleafppfkaaaGreatDoor
open Go.RowKit
set_option linter.unusedVariables false
set_option linter.unusedSimpArgs false
section
variable {F:Nat→Prop} {g zg:Nat} {u w0:World} {v:GA} {b:Bok} {rule:Nat} {R:Rul} {l all:List Eve} {rows:List (List Value)} {ch ov:Value} {outs:List (List Int)} {Kt:List Ent}
def AddPost(g zg:Nat)(u:World)(v:GA)(b:Bok)(rule:Nat)(R:Rul)(all:List Eve)(n:Nat):Prop:=
 ∀ (w0:World) (Kt:List Ent) (rows:List (List Value)) (l:List Eve) (ch ov:Value) (outs:List (List Int)),l.length+n=R.whens.length→Rws u rows l→Cho b R all l→outs.length+(addL b.types R all n l).length≤100000000→Mem (StaysB g u) g u w0 ⟨0,0⟩ (own zg [.slice v.a1 v.n1 v.c1,.slice v.a2 v.n2 v.c2,.int .i64 rule,.slice v.a4 v.n4 v.c4,ch,ov] 50::slc u.heap.size 65 5 rawF ch rows::slc u.heap.size 36 1 nsF ov outs::Kt)→
  Calls Tryz.prog 19 #[.pointer (some ⟨zg,0,none⟩)] w0 fun e w' =>e= .returned (.tuple #[])∧ ∃ ch' ov',Mem (StaysB g u) g u w' ⟨0,0⟩ (own zg [.slice v.a1 v.n1 v.c1,.slice v.a2 v.n2 v.c2,.int .i64 rule,.slice v.a4 v.n4 v.c4,ch',ov'] 50::slc u.heap.size 65 5 rawF ch' rows::slc u.heap.size 36 1 nsF ov' (outs++addL b.types R all n l)::Kt)
set_option maxRecDepth 8000 in
set_option maxHeartbeats 8000000 in
theorem addMore_any(T:Tb F u v b rule R all)(hg:g<u.heap.size){m:Nat}(IH:AddPost g zg u v b rule R all m)(hlm:l.length+(m+1)=R.whens.length)(hr:Rws u rows l)(C:Cho b R all l)(ho:outs.length+(addL b.types R all (m+1) l).length≤100000000)(M:Mem (StaysB g u) g u w0 ⟨0,0⟩ (own zg [.slice v.a1 v.n1 v.c1,.slice v.a2 v.n2 v.c2,.int .i64 rule,.slice v.a4 v.n4 v.c4,ch,ov] 50::slc u.heap.size 65 5 rawF ch rows::slc u.heap.size 36 1 nsF ov outs::Kt)):
  Calls Tryz.prog 19 #[.pointer (some ⟨zg,0,none⟩)] w0 fun e w' =>e= .returned (.tuple #[])∧ ∃ ch' ov',Mem (StaysB g u) g u w' ⟨0,0⟩ (own zg [.slice v.a1 v.n1 v.c1,.slice v.a2 v.n2 v.c2,.int .i64 rule,.slice v.a4 v.n4 v.c4,ch',ov'] 50::slc u.heap.size 65 5 rawF ch' rows::slc u.heap.size 36 1 nsF ov' (outs++addL b.types R all (m+1) l)::Kt):=by
 obtain⟨ao,cap,rfl,hS0⟩:=tup_raw M (i:=1) rfl hr
 obtain⟨oa,oc,rfl⟩:=slc_slice M (i:=2) rfl
 have hwl:R.whens.length≤3:=(rule_few T.zero).1
 obtain⟨cr,or,b1,e1,hixr,hR1⟩:=T.rule0
 have HR1:=Lib.hid hR1
 have HRW:=Lib.hid hr
 have HTB:=Lib.hid T
 have HCC:=Lib.hid C
 have HIH:=Lib.hid IH
 have HLM:=Lib.hid hlm
 have hl3:l.length≤2:=by omega
 have hll:l.length<R.whens.length:=by omega
 have HLL:=Lib.hid hll
 have hq1:((l.length:Int)==(R.whens.length:Int))=false:=by simp;omega
 have hrl:rows.length=l.length:=hr.1
 have HRL:=Lib.hid hrl
 have hr1:Hid (rows.length≤100000):=by show _≤_;omega
 have HX4:=Lib.hid T.alls
 have hle4:=T.alls.le
 have N4:Hid (v.n4=all.length):=T.alls.len
 have hadd:addL b.types R all (m+1) l=all.flatMap fun x=>if stepB b.types R l x=true then addL b.types R all m (l++[x])else []:=rfl
 rw[hadd]at ho ⊢
 have HOB:=Lib.hid ho
 clear hadd T hR1 hr C hlm hg hS0 ho IH hll hrl
 go_enter Tryz.func19,Tryz.ntmps19
 go_wp2_with (with_reducible refine wq M ?_)
 ((refine wp_region_calm M (by kernel_rfl) (by kernel_rfl) ?_);(repeat((with_reducible refine c_list rfl fun K hK=>?_);(first|(refine c_load (l' :=?_) ⟨_,M⟩ (fun w M=>?_) ?_;rotate_left;focus((first|(refine q_cellat (HR1.out _ M.new) ?_)|refine q_get M (by exact rfl) ?_);refine⟨rfl,?_⟩;with_reducible rfl))|(refine c_pure (v:=?_) (fun w=>?_) ?_;rotate_left;focus(go_simp;try with_reducible rfl)));(try go_simp);with_reducible refine hK _ ?_;clear hK K));(refine wpQuiet_nil ?_);clear M;intro w M)
 go_wp2_with (with_reducible refine wq M ?_)
 go_loopg [62] v.n4 (fun f i wr=> ∃ (j:Nat) (ch2 ov2:Value) (ot:List (List Int)),j+f=v.n4∧i= .int .i64 j∧Mem (StaysB g u) g u wr ⟨0,0⟩ (own zg [.slice v.a1 v.n1 v.c1,.slice v.a2 v.n2 v.c2,.int .i64 rule,.slice v.a4 v.n4 v.c4,ch2,ov2] 50::slc u.heap.size 65 5 rawF ch2 rows::slc u.heap.size 36 1 nsF ov2 ot::Kt)∧Hid (ot=outs++(all.take j).flatMap fun x=>if stepB b.types R l x=true then addL b.types R all m (l++[x])else []))
 case atStart=>exact⟨0,_,_,outs,by omega,rfl,M,Lib.hid (by simp)⟩
 case round=>
  clear M
  obtain⟨j,ch2,ov2,ot,hj,rfl,M,HOT⟩:=hrel
  by_cases hlt:j<v.n4
  ·have hal:j<all.length:=by have:=N4.out;omega
   obtain⟨cx,ox,rowx,hixx, -,hrrx,hwx⟩:=SlF.rowAt (P:=Tryz.prog) HX4.out eveF_firm Tryz.underlying26 size_eve (i:=j) hal
   have HEV:=Lib.hid hrrx
   obtain⟨px,qx,rx,ex,ux⟩:=hrrx
   subst ex
   have HRX:=Lib.hid (fun wx hb=>(hwx wx hb).1)
   obtain⟨ao2,cap2,rfl,hS2⟩:=tup_raw M (i:=1) rfl HRW.out
   obtain⟨oa2,oc2,rfl⟩:=slc_slice M (i:=2) rfl
   have HMA:=Lib.hid (List.getElem_mem hal)
   have HFS:Hid (stepB b.types R l all[j]=true→ot++addL b.types R all m (l++[all[j]])=outs++(all.take (j+1)).flatMap fun x=>if stepB b.types R l x=true then addL b.types R all m (l++[x])else []):=fun h=>by
    rw[flat_snoc hal,if_pos h,HOT.out,List.append_assoc]
   have HF0:Hid (stepB b.types R l all[j]=false→ot=outs++(all.take (j+1)).flatMap fun x=>if stepB b.types R l x=true then addL b.types R all m (l++[x])else []):=fun h=>by
    rw[flat_snoc hal,if_neg (by rw[h];simp),List.append_nil]
    exact HOT.out
   have HBD:Hid (stepB b.types R l all[j]=true→ot.length+(addL b.types R all m (l++[all[j]])).length≤100000000):=fun h=>by
    have h1:=congrArg List.length (HFS.out h)
    have h2:=flat_le (all:=all) (f:=fun x=>if stepB b.types R l x=true then addL b.types R all m (l++[x])else []) (j+1)
    have h3:=HOB.out
    simp only[List.length_append]at h1 h3
    omega
   have hsb:stepB b.types R l all[j]=(!inT l all[j]&&(takenB b.types R.whens l all[j] (R.whens.getD l.length pat0)&&linkedT R (l++[all[j]]))):=rfl
   rw[hsb]at HFS HF0 HBD
   have HIN:Hid (∀ wx (ao:Option Addr) (n cap zx:Nat),SlF (under wx.heap.size) wx 5 eveF ao n cap l→zx<wx.heap.size→wx.cell? ⟨zx,0,none⟩=some (.int .i64 all[j].e.number)→Calls Tryz.prog 35 #[.slice ao n cap,.func (Fn.func 36) #[] #[.pointer (some ⟨zx,0,none⟩)]] wx fun e w' =>e= .returned (.bool (inT l all[j]))∧Below wx.heap.size wx w'):=fun wx ao n cap zx hS hz hc=>
    conEveJ hz hS (fun y=>y.e.number==all[j].e.number) zx (fun y _ so sn sc wy hby=>numEqJ (Nat.lt_of_lt_of_le hz hby.size) y so sn sc zx all[j].e.number (Nat.lt_of_lt_of_le hz hby.size) (keep_cell hz hc wy hby))
   have HTK:Hid (∀ wx (ao:Option Addr) (n cap:Nat),Below u.heap.size u wx→SlF (under wx.heap.size) wx 5 eveF ao n cap l→Calls Tryz.prog 37 #[.agg #[.slice v.a1 v.n1 v.c1,.slice v.a2 v.n2 v.c2],.int .i64 rule,.int .i64 0,.int .i64 l.length,.agg #[.int .i64 all[j].e.number,.int .i64 all[j].e.type,.int .i64 all[j].e.start,.int .i64 all[j].e.stop,.slice px qx rx],.slice ao n cap] wx fun e w' =>e= .returned (.tuple #[.bool (takenB b.types R.whens l all[j] (R.whens.getD l.length pat0)),.int .i64 0])∧Below wx.heap.size wx w'):=fun wx ao n cap hb hS=>
    HTB.out.takes hb hS HCC.out HLL.out HMA.out ux
   have HLK:Hid (∀ wx (ra:Option Addr) (n rc:Nat) (ov:Value) (L:List Ent),Mem (StaysB g u) g u wx ⟨0,0⟩ (own zg [.slice v.a1 v.n1 v.c1,.slice v.a2 v.n2 v.c2,.int .i64 rule,.slice v.a4 v.n4 v.c4,.slice ra n rc,ov] 50::slc u.heap.size 65 5 rawF (.slice ra n rc) (rows++[[.int .i64 all[j].e.number,.int .i64 all[j].e.type,.int .i64 all[j].e.start,.int .i64 all[j].e.stop,.slice px qx rx]])::L)→takenB b.types R.whens l all[j] (R.whens.getD l.length pat0)=true→
     Calls Tryz.prog 38 #[.pointer (some ⟨zg,0,none⟩)] wx fun e w' =>e= .returned (.bool (linkedT R (l++[all[j]])))∧Below wx.heap.size wx w'):=fun wx ra n rc ov L M2 ht=>
    linkedJ_any (HTB.out.mem M2 (j:=0) rfl (i:=1) rfl (HRW.out.snoc HEV.out) (HCC.out.snoc HMA.out HLL.out ht))
   have HRC:Hid (takenB b.types R.whens l all[j] (R.whens.getD l.length pat0)=true→AddPost g zg u v b rule R all m→ ∀ (wx:World) (Kt:List Ent) (ch ov:Value),ot.length+(addL b.types R all m (l++[all[j]])).length≤100000000→Mem (StaysB g u) g u wx ⟨0,0⟩ (own zg [.slice v.a1 v.n1 v.c1,.slice v.a2 v.n2 v.c2,.int .i64 rule,.slice v.a4 v.n4 v.c4,ch,ov] 50::slc u.heap.size 65 5 rawF ch (rows++[[.int .i64 all[j].e.number,.int .i64 all[j].e.type,.int .i64 all[j].e.start,.int .i64 all[j].e.stop,.slice px qx rx]])::slc u.heap.size 36 1 nsF ov ot::Kt)→
     Calls Tryz.prog 19 #[.pointer (some ⟨zg,0,none⟩)] wx fun e w' =>e= .returned (.tuple #[])∧ ∃ (ra:Option Addr) (rc:Nat) (ov' :Value),l.length+1≤rc∧Mem (StaysB g u) g u w' ⟨0,0⟩ (own zg [.slice v.a1 v.n1 v.c1,.slice v.a2 v.n2 v.c2,.int .i64 rule,.slice v.a4 v.n4 v.c4,(.slice ra (l.length+1) rc),ov'] 50::slc u.heap.size 65 5 rawF (.slice ra (l.length+1) rc) (rows++[[.int .i64 all[j].e.number,.int .i64 all[j].e.type,.int .i64 all[j].e.start,.int .i64 all[j].e.stop,.slice px qx rx]])::slc u.heap.size 36 1 nsF ov' (ot++addL b.types R all m (l++[all[j]]))::Kt)):=fun ht IH wx Kt ch ov hbd M2=>by
    have hr2:=HRW.out.snoc HEV.out
    refine(IH wx Kt _ _ ch ov ot (by rw[List.length_append];have:=HLM.out;simp;omega) hr2 (HCC.out.snoc HMA.out HLL.out ht) hbd M2).mono ?_
    rintro e w' ⟨rfl,ch',ov',M3⟩
    obtain⟨ra,rc,rfl,hS3⟩:=tup_raw M3 (i:=1) rfl hr2
    have hc3:=hS3.2.1
    rw[List.length_append]at hc3 M3
    exact⟨rfl,ra,rc,ov',hc3,M3⟩
   clear hwx ux HOT hsb HEV hS2
   generalize linkedT R (l++[all[j]])=lB at HFS HF0 HBD HLK
   generalize hte:takenB b.types R.whens l all[j] (R.whens.getD l.length pat0)=tB at HFS HF0 HBD HTK HLK HRC
   generalize inT l all[j]=iT at HFS HF0 HBD HIN
   generalize addL b.types R all m (l++[all[j]])=more at HFS HBD HRC
   clear hte HMA
   generalize all[j]=x at HRX HIN HTK HLK HRC
   clear hal
   cases iT with
   |true=>
    have HV:=Lib.hid (HF0.out rfl)
    clear HF0 HFS HBD HTK HLK HRC
    go_wp2_with (first|(with_reducible (first|(refine wV M ?_;clear M;intro zX w M)|refine wq M ?_|(refine wS M ?_;clear M;intro w M)|refine wA (HRX.out _ M.new) ?_|refine w_ (q_funcs _ ?_)))|(go_at_call 35;with_reducible refine(HIN.out _ _ _ _ _ (tup_at M (i:=2) rfl HRW.out) (M.lt0 (i:=0) rfl) (M.cell0 (i:=0) rfl)).mono ?_;rintro e w5 ⟨rfl,hb5⟩;replace M:=M.below hb5;clear hb5))
    go_roundg (v.n4 - (j+1))
    case measure=>omega
    case rel=>exact⟨j+1,_,_,ot,by omega,by go_num,M.drop,HV⟩
   |false=>
    go_wp2_with (first|(with_reducible (first|(refine wV M ?_;clear M;intro zX w M)|refine wq M ?_|(refine wS M ?_;clear M;intro w M)|refine wA (HRX.out _ M.new) ?_|refine w_ (q_funcs _ ?_)))|(go_at_call 35;with_reducible refine(HIN.out _ _ _ _ _ (tup_at M (i:=2) rfl HRW.out) (M.lt0 (i:=0) rfl) (M.cell0 (i:=0) rfl)).mono ?_;rintro e w5 ⟨rfl,hb5⟩;replace M:=M.below hb5;clear hb5))
    ((refine wp_region_calm M (by kernel_rfl) (by kernel_rfl) ?_);(repeat((with_reducible refine c_list rfl fun K hK=>?_);(first|(refine c_load (l' :=?_) ⟨_,M⟩ (fun w M=>?_) ?_;rotate_left;focus((first|refine q_get M (by exact rfl) ?_|refine q_all M (by rfl) ?_|refine q_prt M (by rfl) ?_);refine⟨rfl,?_⟩;with_reducible rfl))|(refine c_call (n:=37) (args:=?_) (v:=?_) (fun w=>?_) (fun w M=>?_) ?_;rotate_left 2;(focus(go_simp;try with_reducible rfl));(focus(with_reducible refine(HTK.out _ _ _ _ M.new (tup_at M (i:=2) rfl HRW.out)).mono ?_;rintro e w5 ⟨rfl,hb5⟩;refine⟨?_,M.below hb5⟩;with_reducible rfl)))|(refine c_pure (v:=?_) (fun w=>?_) ?_;rotate_left;focus(go_simp;try with_reducible rfl)));(try go_simp);with_reducible refine hK _ ?_;clear hK K));(refine wpQuiet_nil ?_);clear M;intro w M)
    clear HIN HTK
    cases tB with
    |false=>
     have HV:=Lib.hid (HF0.out (by simp))
     clear HF0 HFS HBD HLK HRC
     go_wp2_with (with_reducible (first|refine wq M ?_|(refine wS M ?_;clear M;intro w M)|(refine wV M ?_;clear M;intro z w M)|(refine wR M ?_;clear M;intro q w M)))
     go_roundg (v.n4 - (j+1))
     case measure=>omega
     case rel=>exact⟨j+1,_,_,ot,by omega,by go_num,M.drop,HV⟩
    |true=>
     have HLK2:=Lib.hid (fun wx ra n rc ov L M2=>HLK.out wx ra n rc ov L M2 rfl)
     have HRC2:=Lib.hid (HRC.out rfl HIH.out)
     clear HLK HRC
     go_upto_region 16 with(with_reducible (first|refine wq M ?_|(refine wS M ?_;clear M;intro w M)|(refine wV M ?_;clear M;intro z w M)|(refine wR M ?_;clear M;intro q w M)))
     go_cut [2] (fun vv wx=>vv= .int .i64 l.length∧ ∃ ra rc,Mem (StaysB g u) g u wx ⟨0,0⟩ (own zX [.int .i64 x.e.number,.int .i64 x.e.type,.int .i64 x.e.start,.int .i64 x.e.stop,.slice px qx rx] 65::own zg [.slice v.a1 v.n1 v.c1,.slice v.a2 v.n2 v.c2,.int .i64 rule,.slice v.a4 v.n4 v.c4,(.slice ra (rows.length+1) rc),(.slice oa2 ot.length oc2)] 50::slc u.heap.size 65 5 rawF (.slice ra (rows.length+1) rc) (rows++[[.int .i64 x.e.number,.int .i64 x.e.type,.int .i64 x.e.start,.int .i64 x.e.stop,.slice px qx rx]])::slc u.heap.size 36 1 nsF (.slice oa2 ot.length oc2) ot::Kt))
     case first=>
      (refine wp_region_any (by kernel_rfl) ?_;(try(change wpAny _ _ _ _ _ _ _ (World.drew _)));replace M:=M.drew;generalize World.drew _=w at M ⊢;have S:=St.o;((refine tk 0 (v:=?_) rfl (by kernel_rfl) rfl ?_ ?_;rotate_left;focus(intro w;go_simp;try with_reducible rfl));(try go_simp);(refine tk 1 (v:=?_) rfl (by kernel_rfl) rfl ?_ ?_;rotate_left;focus(intro w;go_simp;try with_reducible rfl));(try go_simp);(refine tk 2 (v:=?_) rfl (by kernel_rfl) rfl ?_ ?_;rotate_left;focus(intro w;go_simp;try with_reducible rfl));(try go_simp);(refine tk 3 (v:=?_) rfl (by kernel_rfl) rfl ?_ ?_;rotate_left;focus(intro w;go_simp;try with_reducible rfl));(try go_simp);replace S:=S.add 15;refine rd2 4 5 (by kernel_rfl) rfl rfl ?_ rfl rfl ?_<;>intro K hK);all_goals(first|(refine o_dst (some 96) ?_;(refine q_get M (by exact rfl) ?_);(all_goals(refine hK _ _ ?_;clear hK K;replace S:=S.add 16)))|(refine o_dst (some 97) ?_;(refine q_all M (by rfl) ?_);(all_goals(refine hK _ _ ?_;clear hK K;replace S:=S.add 32))));all_goals(first|(replace S:St 31:=S;refine rd1 5 (by kernel_rfl) rfl rfl ?_<;>intro K hK)|(replace S:St 47:=S;refine rd2 4 6 (by kernel_rfl) rfl rfl ?_ rfl rfl ?_<;>intro K hK));all_goals(first|(refine o_dst (some 97) ?_;(refine q_all M (by rfl) ?_);(all_goals(refine hK _ _ ?_;clear hK K;replace S:=S.add 32)))|(refine o_dst (some 96) ?_;(refine q_get M (by exact rfl) ?_);(all_goals(refine hK _ _ ?_;clear hK K;replace S:=S.add 16)))|(refine o_dst (some 98) ?_;(refine q_row M (by rfl) ?_;clear M;intro q w M);(all_goals(refine hK _ _ ?_;clear hK K;replace S:=S.add 64))));all_goals(first|(replace S:St 63:=S;refine rd1 6 (by kernel_rfl) rfl rfl ?_<;>intro K hK)|(replace S:St 111:=S;refine rd1 4 (by kernel_rfl) rfl rfl ?_<;>intro K hK));all_goals(first|(refine o_dst (some 98) ?_;(refine q_row M (by rfl) ?_;clear M;intro q w M);(all_goals(refine hK _ _ ?_;clear hK K;replace S:=S.add 64)))|(refine o_dst (some 96) ?_;(refine q_get M (by exact rfl) ?_);(all_goals(refine hK _ _ ?_;clear hK K;replace S:=S.add 16))));all_goals(refine rd1 7 (by kernel_rfl) rfl rfl ?_<;>intro K hK);all_goals(refine o_dst (some 99) ?_;(refine q_app (R:=rawF) rawF_firm M 3 rfl _ rfl (by rfl) (by rfl) hr1.out ?_;clear M;intro ra2 rc2 w M;(try simp only[List.set_cons_zero,List.set_cons_succ]at M));(all_goals(refine hK _ _ ?_;clear hK K;replace S:=S.add 128)));all_goals((refine tk 8 (v:=?_) rfl (by kernel_rfl) rfl ?_ ?_;rotate_left;focus(intro w;go_simp;try with_reducible rfl));(try go_simp);(refine tk 9 (v:=?_) rfl (by kernel_rfl) rfl ?_ ?_;rotate_left;focus(intro w;go_simp;try with_reducible rfl));(try go_simp);replace S:=S.add 768;refine rd1 10 (by kernel_rfl) rfl rfl ?_<;>intro K hK);all_goals(refine o_dst none ?_;((refine q_set M (by rfl) (by rfl) ?_);clear M;intro w M;simp only[List.set_cons_zero,List.set_cons_succ]at M);(all_goals(refine hK _ _ ?_;clear hK K;replace S:=S.add 1024)));all_goals(clear S;(refine wpAny_done (by kernel_rfl) ?_ _)))
      all_goals
       go_wp2_with (with_reducible (first|refine wq M ?_|(refine wS M ?_;clear M;intro w M)|(refine wV M ?_;clear M;intro z w M)|(refine wR M ?_;clear M;intro q w M)))
       go_meet
       case rel=>exact⟨rfl,_,_,M.drop⟩
     case rest=>
     clear M
     obtain⟨rfl,ra,rc,M⟩:=hcut
     have hcp:rows.length+1≤rc:=by
      obtain⟨ra9,rc9,e9⟩:=slc_slice M (i:=2) rfl
      obtain⟨ao9,cap9,e8,h8⟩:=(show OwnF _ _ _ _ _ rawF _ _ from M.say _ (Mem.of_get (i:=2) rfl)).done (G:=fun _=>True) rawF_firm (by omega) (fun _ _ _=>trivial)
      injection e8 with e5 e6 e7
      have:=h8.2.1
      rw[List.length_append]at this
      subst e7
      exact this
     rw[HRL.out]at M hcp
     cases lB with
     |false=>
      have HV:=Lib.hid (HF0.out (by simp))
      clear HF0 HFS HBD HRC2
      go_wp2_with (first|(with_reducible (first|refine wq M ?_|(refine wS M ?_;clear M;intro w M)))|(go_at_call 38;with_reducible refine(HLK2.out _ _ _ _ _ _ M.drop).mono ?_;rintro e w5 ⟨rfl,hb5⟩;replace M:=M.below hb5;clear hb5))
      replace M:=M.cutS (i:=2) rawF_firm rfl
      simp only[List.set_cons_zero,List.set_cons_succ]at M
      rw[HRL.out]at M
      go_roundg (v.n4 - (j+1))
      case measure=>omega
      case rel=>exact⟨j+1,_,_,ot,by omega,by go_num,M.drop,HV⟩
     |true=>
      have HV:=Lib.hid (HFS.out rfl)
      have HBD2:=Lib.hid (HBD.out rfl)
      clear HF0 HFS HBD
      go_wp2_with (first|(with_reducible (first|refine wq M ?_|(refine wS M ?_;clear M;intro w M)))|(go_at_call 38;with_reducible refine(HLK2.out _ _ _ _ _ _ M.drop).mono ?_;rintro e w5 ⟨rfl,hb5⟩;replace M:=M.below hb5;clear hb5)|(go_at_call 19;with_reducible refine(HRC2.out _ _ _ _ HBD2.out M.sink).mono ?_;rintro e w5 ⟨rfl,ra,rc,ov5,hcp5,M⟩;replace M:=M.rise))
      replace M:=M.cutS (i:=2) rawF_firm rfl
      simp only[List.set_cons_zero,List.set_cons_succ]at M
      rw[HRL.out]at M
      go_roundg (v.n4 - (j+1))
      case measure=>omega
      case rel=>exact⟨j+1,_,_,_,by omega,by go_num,M.drop,HV⟩
  ·have hje:all.take j=all:=List.take_of_length_le (by have:=N4.out;omega)
   have HV:ot=outs++all.flatMap fun x=>if stepB b.types R l x=true then addL b.types R all m (l++[x])else []:=by have:=HOT.out;rwa[hje]at this
   subst HV
   clear HOT hje
   go_wp2_with (with_reducible (first|refine wq M ?_|(refine wS M ?_;clear M;intro w M)|(refine wV M ?_;clear M;intro z w M)|(refine wR M ?_;clear M;intro q w M)))
   go_end0
   exact⟨rfl,_,_,M⟩
theorem add_any(T:Tb F u v b rule R all)(hg:g<u.heap.size): ∀ n,AddPost g zg u v b rule R all n
 |0=>fun w0 Kt rows l ch ov outs hl hr C ho M=>by
  by_cases hw:windowsB all R.whens l=true
  ·exact addEnd_any T hg (by omega) hr C hw (by
    have e:addL b.types R all 0 l=[numsE l]:=if_pos hw
    rw[e]at ho
    exact ho) M
  ·exact addEnd0_any T hg (by omega) hr C (by simpa using hw) M
 |n+1=>fun w0 Kt rows l ch ov outs hl hr C ho M=>addMore_any T hg (add_any T hg n) hl hr C ho M
end
end Go.Proofs.YtfahleafppfkaaaGreatDoor
/-
  The walk of join.Tuples.
-/
namespace Go.Proofs.YtfahleafppfkaaaGreatDoor
open Go.RowKit
set_option linter.unusedVariables false
set_option linter.unusedSimpArgs false
structure Ag (F:Nat→Prop) (w:World) (v:GA) (b:Bok) (all:List Eve):Prop where
 env:Env F w
 far: ∀ b,F b→b<w.heap.size
 types:SlF F w 2 typF v.a1 v.n1 v.c1 b.types
 rules:SlF F w 7 rulF v.a2 v.n2 v.c2 b.rules
 alls:SlF (under w.heap.size) w 5 eveF v.a4 v.n4 v.c4 all
 okT: ∀ t∈b.types,typOk t
 okR: ∀ x∈b.rules,RulFit x
 okE: ∀ x∈b.rules,x.etype.size≤maxLen
 okA: ∀ x∈all,eveOk x
def tupE(b:Bok)(rule:Int)(all:List Eve):List (List Int)×Int:=
 if eventsE b all≠0 then([],eventsE b all)else if ¬ (0≤rule∧rule<b.rules.length)then([],2)
 else(addL b.types (b.rules.getD rule.toNat rul00) all (b.rules.getD rule.toNat rul00).whens.length [],0)
def TupPost(w0:World)(E:List (List Int)×Int)(e:Ending)(w' :World):Prop:= ∃ ao n cap,e= .returned (.tuple #[.slice ao n cap,.int .i64 E.2])∧Below w0.heap.size w0 w' ∧SlF (fun _=>True) w' 1 nsF ao n cap E.1
theorem tup_none{w0 w' :World}{q:Int}(hb:Below w0.heap.size w0 w'):TupPost w0 ([],q) (.returned (.tuple #[.slice none 0 0,.int .i64 q])) w' :=⟨none,0,0,rfl,hb,SlF.nil⟩
theorem Mem.rise2{At:PS→World→Prop}{b:Nat}{u w:World}{s:PS}{L:List Ent}{e1 e2 x:Ent}(M:Mem At b u w s (e1::e2::x::L)):Mem At b u w s (x::e1::e2::L):=M.perm (List.perm_middle (l₁:=[e1,e2]))
instance iStTeam:StI Tryz.prog 50 6:=⟨by kernel_rfl,_,Tryz.underlying50,rfl⟩
section
variable {g:Nat} {F:Nat→Prop} {w0:World} {v:GA} {b:Bok} {all:List Eve} {rule:Int}
theorem Ag.below{w' :World}(h:Ag F w0 v b all)(hb:Below w0.heap.size w0 w'):Ag F w' v b all:=
 {h with
  env:=h.env.below hb
  far:=fun k hk=>Nat.lt_of_lt_of_le (h.far k hk) hb.size
  types:=h.types.below typF_firm hb
  rules:=h.rules.below rulF_firm hb
  alls:=(h.alls.below eveF_firm hb).wide eveF_firm (fun b hb2 _=>Nat.lt_of_lt_of_le hb2 hb.size)}
theorem Ag.check(h:Ag F w0 v b all):Calls Tryz.prog 18 #[.agg #[.slice v.a1 v.n1 v.c1,.slice v.a2 v.n2 v.c2],.slice v.a4 v.n4 v.c4] w0 fun e w' =>e= .returned (.int .i64 (eventsE b all))∧Below w0.heap.size w0 w' :=
 checkEvents_any h.env.lt h.env h.far b v.a1 v.n1 v.c1 v.a2 v.n2 v.c2 h.types h.rules h.okT h.okR h.okE v.a4 v.n4 v.c4 all h.alls h.okA
set_option maxRecDepth 8000 in
set_option maxHeartbeats 8000000 in
theorem tuples_bad(G:Ag F w0 v b all)(h0:eventsE b all≠0):Calls Tryz.prog 7 #[.agg #[.slice v.a1 v.n1 v.c1,.slice v.a2 v.n2 v.c2],.int .i64 rule,.slice v.a4 v.n4 v.c4] w0 (TupPost w0 (tupE b rule all)):=by
 have M:=Mem.begin G.env.lt ⟨0,0⟩
 have HC:Hid (∀ wx,Below w0.heap.size w0 wx→Calls Tryz.prog 18 #[.agg #[.slice v.a1 v.n1 v.c1,.slice v.a2 v.n2 v.c2],.slice v.a4 v.n4 v.c4] wx fun e w' =>e= .returned (.int .i64 (eventsE b all))∧Below wx.heap.size wx w'):=fun wx hb=>(G.below hb).check
 have HV:Hid (tupE b rule all=([],eventsE b all)):=by show _=_;unfold tupE;rw[if_pos h0]
 have hqb:(eventsE b all !=0)=true:=by simpa using h0
 generalize tupE b rule all=T at HV ⊢
 generalize eventsE b all=q at HC HV hqb
 clear h0 G
 go_enter Tryz.func7,Tryz.ntmps7
 go_wp2_with (first|(with_reducible (first|(refine wB (L:=[]) M ?_;clear M;intro za w1 M)|refine wq M ?_))|(go_at_call 18;with_reducible refine(HC.out _ M.new).mono ?_;rintro e w5 ⟨rfl,hb5⟩;replace M:=M.below hb5;clear hb5))
 go_ret2
 rw[HV.out]
 exact tup_none M.new
set_option maxRecDepth 8000 in
set_option maxHeartbeats 8000000 in
theorem tuples_norule(G:Ag F w0 v b all)(h0:eventsE b all=0)(hr: ¬ (0≤rule∧rule<b.rules.length)):Calls Tryz.prog 7 #[.agg #[.slice v.a1 v.n1 v.c1,.slice v.a2 v.n2 v.c2],.int .i64 rule,.slice v.a4 v.n4 v.c4] w0 (TupPost w0 (tupE b rule all)):=by
 have M:=Mem.begin G.env.lt ⟨0,0⟩
 have HC:Hid (∀ wx,Below w0.heap.size w0 wx→Calls Tryz.prog 18 #[.agg #[.slice v.a1 v.n1 v.c1,.slice v.a2 v.n2 v.c2],.slice v.a4 v.n4 v.c4] wx fun e w' =>e= .returned (.int .i64 (eventsE b all))∧Below wx.heap.size wx w'):=fun wx hb=>(G.below hb).check
 have HV:Hid (tupE b rule all=([],2)):=by show _=_;unfold tupE;rw[if_neg (by rw[h0];simp),if_pos hr]
 have N2:=G.rules.len
 rw[h0]at HC
 have hd:rule<0∨(¬ rule<0∧(v.n2:Int)≤rule):=by omega
 generalize tupE b rule all=T at HV ⊢
 clear h0 hr N2 G
 obtain⟨u1,hu1⟩: ∃ u1,decide (rule<0)=u1:=⟨_,rfl⟩
 obtain⟨u2,hu2⟩: ∃ u2,decide ((v.n2:Int)≤rule)=u2:=⟨_,rfl⟩
 have hu:Hid (u1=true∨u2=true):=by
  rcases hd with hd|⟨hd1,hd⟩
  ·exact .inl (by rw[←hu1];simpa using hd)
  ·exact .inr (by rw[←hu2];simpa using hd)
 clear hd
 cases u1<;>cases u2
 ·exact absurd hu.out (by simp)
 all_goals
  clear hu
  go_enter Tryz.func7,Tryz.ntmps7
  go_wp2_with (first|(with_reducible (first|(refine wB (L:=[]) M ?_;clear M;intro za w1 M)|refine wq M ?_))|(go_at_call 18;with_reducible refine(HC.out _ M.new).mono ?_;rintro e w5 ⟨rfl,hb5⟩;replace M:=M.below hb5;clear hb5))
  go_ret2
  rw[HV.out]
  exact tup_none M.new
set_option maxRecDepth 8000 in
set_option maxHeartbeats 8000000 in
theorem tuples_main(G:Ag F w0 v b all)(h0:eventsE b all=0)(hr:0≤rule∧rule<b.rules.length):Calls Tryz.prog 7 #[.agg #[.slice v.a1 v.n1 v.c1,.slice v.a2 v.n2 v.c2],.int .i64 rule,.slice v.a4 v.n4 v.c4] w0 (TupPost w0 (tupE b rule all)):=by
 obtain⟨g,hg⟩: ∃ g,g<w0.heap.size:=⟨_,G.env.lt⟩
 have M:=Mem.begin hg ⟨0,0⟩
 have HC:Hid (∀ wx,Below w0.heap.size w0 wx→Calls Tryz.prog 18 #[.agg #[.slice v.a1 v.n1 v.c1,.slice v.a2 v.n2 v.c2],.slice v.a4 v.n4 v.c4] wx fun e w' =>e= .returned (.int .i64 (eventsE b all))∧Below wx.heap.size wx w'):=fun wx hb=>(G.below hb).check
 have hrl:rule.toNat<b.rules.length:=by omega
 have hre:((rule.toNat:Nat):Int)=rule:=Int.toNat_of_nonneg hr.1
 obtain⟨hbk,hal,hev⟩:=events_parts h0
 have N2:=G.rules.len
 have hd1:decide (rule<0)=false:=by simp;omega
 have hd2:decide ((v.n2:Int)≤rule)=false:=by simp;omega
 have hR:b.rules.getD rule.toNat rul00=b.rules[rule.toNat]:=by simp[List.getD,List.getElem?_eq_getElem hrl]
 have HV:Hid (tupE b rule all=(addL b.types b.rules[rule.toNat] all b.rules[rule.toNat].whens.length [],0)):=by
  show _=_
  unfold tupE
  rw[if_neg (by rw[h0];simp),if_neg (fun hn=>hn hr),hR]
 have T:Tb F w0 v b rule.toNat b.rules[rule.toNat] all:={env:=G.env,far:=G.far,types:=G.types,rules:=G.rules,alls:=G.alls,okT:=G.okT,okR:=G.okR,okE:=G.okE,okA:=G.okA,fewA:=hal,book:=hbk,is:=List.getElem?_eq_getElem hrl,evA:=hev}
 have hw3:=(rule_few T.zero).1
 have HAD:Hid (∀ zg wx za,Mem (StaysB g w0) g w0 wx ⟨0,0⟩ (own zg [.slice v.a1 v.n1 v.c1,.slice v.a2 v.n2 v.c2,.int .i64 rule,.slice v.a4 v.n4 v.c4,.slice none 0 0,.slice none 0 0] 50::own za [.slice v.a1 v.n1 v.c1,.slice v.a2 v.n2 v.c2] 25::[])→
   Calls Tryz.prog 19 #[.pointer (some ⟨zg,0,none⟩)] wx fun e w' =>e= .returned (.tuple #[])∧ ∃ ch oa oc,Mem (StaysB g w0) g w0 w' ⟨0,0⟩ (own zg [.slice v.a1 v.n1 v.c1,.slice v.a2 v.n2 v.c2,.int .i64 rule,.slice v.a4 v.n4 v.c4,ch,.slice oa (addL b.types b.rules[rule.toNat] all b.rules[rule.toNat].whens.length []).length oc] 50::slc w0.heap.size 36 1 nsF (.slice oa (addL b.types b.rules[rule.toNat] all b.rules[rule.toNat].whens.length []).length oc) (addL b.types b.rules[rule.toNat] all b.rules[rule.toNat].whens.length [])::[])):=fun zg wx za M2=>by
  have M3:=((M2.none_ (R:=nsF) nsF_firm 36 1).none_ (R:=rawF) rawF_firm 65 5).rise2
  rw[←hre]at M3
  refine((add_any T hg b.rules[rule.toNat].whens.length) wx _ [] [] _ _ [] (by simp) Rws.nil ⟨(fun x hx=>by cases hx),Nat.zero_le _,fun i hi=>absurd hi (Nat.not_lt_zero i)⟩ ?_ M3).mono ?_
  ·have h1:=addL_len b.types b.rules[rule.toNat] all hal b.rules[rule.toNat].whens.length []
   have h2:(120:Nat)^b.rules[rule.toNat].whens.length≤120^3:=Nat.pow_le_pow_right (by omega) hw3
   simp only[List.length_nil,Nat.zero_add]
   exact Nat.le_trans h1 (Nat.le_trans h2 (by decide))
  ·rintro e w' ⟨rfl,ch,ov,M4⟩
   rw[List.nil_append]at M4
   obtain⟨oa,oc,rfl⟩:=slc_slice M4 (i:=2) rfl
   rw[hre]at M4
   exact⟨rfl,ch,oa,oc,(M4.cut [_]).cut [_,_]⟩
 rw[h0]at HC
 generalize tupE b rule all=T2 at HV ⊢
 generalize addL b.types b.rules[rule.toNat] all b.rules[rule.toNat].whens.length []=Lr at HV HAD
 clear T hw3 h0 hr N2 hrl hre hbk hal hev hR G
 replace hg:=Lib.hid hg
 go_enter Tryz.func7,Tryz.ntmps7
 go_wp2_with (first|(with_reducible (first|(refine wB (L:=[]) M ?_;clear M;intro za w1 M)|(refine wB (L:=[_]) M ?_;clear M;intro zg w1 M)|refine wq M ?_))|(go_at_call 18;with_reducible refine(HC.out _ M.new).mono ?_;rintro e w5 ⟨rfl,hb5⟩;replace M:=M.below hb5;clear hb5)|(go_at_call 19;with_reducible refine(HAD.out _ _ _ M).mono ?_;rintro e w5 ⟨rfl,ch5,oa5,oc5,M⟩))
 go_ret2
 rw[HV.out]
 exact⟨_,_,_,rfl,M.new,M.slf nsF_firm (i:=1) rfl (by omega)⟩
theorem tuples_any(G:Ag F w0 v b all)(rule:Int):Calls Tryz.prog 7 #[.agg #[.slice v.a1 v.n1 v.c1,.slice v.a2 v.n2 v.c2],.int .i64 rule,.slice v.a4 v.n4 v.c4] w0 (TupPost w0 (tupE b rule all)):=by
 by_cases h0:eventsE b all=0
 ·by_cases hr:0≤rule∧rule<b.rules.length
  ·exact tuples_main G h0 hr
  ·exact tuples_norule G h0 hr
 ·exact tuples_bad G h0
end
end Go.Proofs.YtfahleafppfkaaaGreatDoor
