/-
  The walk of the reference's watch: fired. Printed by was.py.
-/
import Derived.Test.YtfahleafppfkaaaGreatDoorWf31
import Derived.Test.YtfahleafppfkaaaGreatDoorWf34
namespace Go.Proofs.YtfahleafppfkaaaGreatDoor
open Go.RowKit
set_option linter.unusedVariables false
set_option linter.unusedSimpArgs false
theorem near_in(last n:Int)(x:Eve):inB x.e.stop (last - n) last=nearB last n x:=by
 unfold inB nearB
 rw[Bool.eq_iff_iff]
 simp
 omega
theorem inB_is2(n lo hi:Int)(b:Bool)(h:inB n lo hi=b)(w:World):Calls Tryz.prog 21 #[.int .i64 n,.int .i64 lo,.int .i64 hi] w fun e w' =>e= .returned (.bool b)∧Below w.heap.size w w' :=by
 rw[←h];exact(in_any n lo hi w).mono fun e w' h=>⟨h.1,h.2▸Below.refl _ _⟩
section
variable {w0:World}
set_option maxRecDepth 8000 in
set_option maxHeartbeats 8000000 in
theorem fired_any(hg: ∃ g,g<w0.heap.size){b:Bok}{r:Nat}{R:Rul}{tuple all:List Eve}{a1:Option Addr}{n1 c1:Nat}{b1 b2 b3 b4 b6:Option Addr}{m1 e1 m2 e2 m3 e3 m4 e4 m6 e6:Nat}{a3:Option Addr}{n3 c3:Nat}{a4:Option Addr}{n4 c4:Nat}
  (X1:SlF (fun _=>True) w0 2 typF a1 n1 c1 b.types)(Y1:SlF (fun _=>True) w0 18 patF b1 m1 e1 R.whens)(Y2:SlF (fun _=>True) w0 18 patF b2 m2 e2 R.nots)(Y3:SlF (fun _=>True) w0 20 manF b3 m3 e3 R.manies)(Y4:SlF (fun _=>True) w0 3 lnkF b4 m4 e4 R.links)
  (X3:SlF (fun _=>True) w0 5 eveF a3 n3 c3 tuple)(X4:SlF (fun _=>True) w0 5 eveF a4 n4 c4 all)(hts: ∀ t∈b.types,typOk t)(h0:bookE b=0)(hr:r<b.rules.length)(hR:b.rules[r]=R)(T:Tup b R tuple)(evU: ∀ x∈tuple,eventE b.types x.e x.vals=0)(evA: ∀ x∈all,eventE b.types x.e x.vals=0)(hfw:R.whens.length≤3):
  Calls Tryz.prog 27 #[.slice a1 n1 c1,.agg (rulC R (.slice b1 m1 e1) (.slice b2 m2 e2) (.slice b3 m3 e3) (.slice b4 m4 e4) (.slice b6 m6 e6)).toArray,.slice a3 n3 c3,.slice a4 n4 c4] w0 fun e w' =>e= .returned (.bool (!blockedB b.types R tuple all&&enoughB b.types R tuple all))∧Below w0.heap.size w0 w' :=by
 obtain⟨g,hg⟩:=hg
 have M:=Mem.begin hg ⟨0,0⟩
 have hz:ruleE b.types R=0:=by have:=rule_zero h0 hr;rwa[hR]at this
 have HV:Hid (∀ (x:Eve) (p:Option Addr) (q c:Nat),SlF (fun _=>True) w0 3 (plainF valC) p q c x.vals→Rv w0 ⟨a1,n1,c1,b1,m1,e1,p,q,c,a3,n3,c3⟩ b.types R.whens tuple x):=fun x p q c h=>⟨⟨g,hg⟩,X1,Y1,h,X3,hts⟩
 have HBK:Hid (∀ wx (i:Nat) (hi:i<R.nots.length) (so:Option Addr) (sn sc:Nat) (x:Eve) (p:Option Addr) (q c:Nat),Below w0.heap.size w0 wx→SlF (fun _=>True) w0 14 CondF so sn sc R.nots[i].wher.subs→SlF (fun _=>True) w0 3 (plainF valC) p q c x.vals→eventE b.types x.e x.vals=0→Calls Tryz.prog 51 #[.slice a1 n1 c1,.agg (rulC R (.slice b1 m1 e1) (.slice b2 m2 e2) (.slice b3 m3 e3) (.slice b4 m4 e4) (.slice b6 m6 e6)).toArray,.agg (patC R.nots[i] so sn sc).toArray,.slice a3 n3 c3,.agg #[.int .i64 x.e.number,.int .i64 x.e.type,.int .i64 x.e.start,.int .i64 x.e.stop,.slice p q c]] wx fun e w' =>e= .returned (.bool (blockB b.types R tuple R.nots[i] x))∧Below wx.heap.size wx w'):=fun wx i hi so sn sc x p q c hb hS hv hx=>
  blocks_any (v:=⟨a1,n1,c1,b1,m1,e1,p,q,c,a3,n3,c3⟩) ((HV.out x p q c hv).below hb) (Y4.below lnkF_firm hb) R.nots[i] (hS.below condF_firm hb) hz (not_name hz hi) T hx (fun hn=>by
   have h:=hold_tup (part:=1) (k:=i) h0 hr (.inl rfl) (by rw[hR];exact hi) (by rw[hR];exact T) (evGood_of hx)
   rw[hR]at h
   have e:(partL R 1).getD i pat0=R.nots[i]:=by unfold partL;simp[List.getD,List.getElem?_eq_getElem hi]
   rw[e]at h
   exact h hn) hfw
 have HTK:Hid (∀ wx (i:Nat) (hi:i<R.manies.length) (so:Option Addr) (sn sc:Nat) (x:Eve) (p:Option Addr) (q c:Nat),Below w0.heap.size w0 wx→SlF (fun _=>True) w0 14 CondF so sn sc R.manies[i].pat.wher.subs→SlF (fun _=>True) w0 3 (plainF valC) p q c x.vals→eventE b.types x.e x.vals=0→Calls Tryz.prog 53 #[.slice a1 n1 c1,.agg (rulC R (.slice b1 m1 e1) (.slice b2 m2 e2) (.slice b3 m3 e3) (.slice b4 m4 e4) (.slice b6 m6 e6)).toArray,.agg (patC R.manies[i].pat so sn sc).toArray,.agg #[.int .i64 x.e.number,.int .i64 x.e.type,.int .i64 x.e.start,.int .i64 x.e.stop,.slice p q c],.slice a3 n3 c3] wx fun e w' =>e= .returned (.bool (takenB b.types R.whens tuple x R.manies[i].pat))∧Below wx.heap.size wx w'):=fun wx i hi so sn sc x p q c hb hS hv hx=>
  taken_any (v:=⟨a1,n1,c1,b1,m1,e1,p,q,c,a3,n3,c3⟩) ((HV.out x p q c hv).below hb) (by rw[T.len];exact Nat.le_refl _) R.manies[i].pat (evGood_of hx).lo (evGood_of hx).hi (hS.below condF_firm hb) (fun hn=>by
   have h:=hold_tup (part:=2) (k:=i) h0 hr (.inr rfl) (by rw[hR];show i<(R.manies.map Many.pat).length;simpa using hi) (by rw[hR];exact T) (evGood_of hx)
   rw[hR]at h
   have e:(partL R 2).getD i pat0=R.manies[i].pat:=by unfold partL;simp[List.getD,List.getElem?_eq_getElem hi]
   rw[e]at h
   exact h hn)
 have HLE:Hid (∀ wx,Below w0.heap.size w0 wx→Calls Tryz.prog 52 #[.slice a3 n3 c3] wx fun e w' =>e= .returned (.int .i64 (lastE tuple))∧Below wx.heap.size wx w'):=fun wx hb=>latestEnd_any ⟨g,Nat.lt_of_lt_of_le hg hb.size⟩ a3 n3 c3 tuple (X3.below eveF_firm hb)
 have HX1:=Lib.hid X1
 have HTS:=Lib.hid hts
 have HY2:=Lib.hid Y2
 have hle2:=Y2.le
 have N2:Hid (m2=R.nots.length):=Y2.len
 have HY3:=Lib.hid Y3
 have hle3:=Y3.le
 have N3:Hid (m3=R.manies.length):=Y3.len
 have HX4:=Lib.hid X4
 have hle4:=X4.le
 have N4:Hid (n4=all.length):=X4.len
 have HEA:=Lib.hid evA
 have HB0:=Lib.hid h0
 have HZ:=Lib.hid hz
 have HLB:Hid (0≤lastE tuple∧lastE tuple≤1099511627776):=lastE_in fun x hx=>(spanE_zero (span_of (evU x hx))).2.1
 have HS1:Hid (∀ i (hi:i<R.nots.length),all.any (blockB b.types R tuple R.nots[i])=true→blockedB b.types R tuple all=true):=fun i hi h=>List.any_eq_true.2 ⟨_,List.getElem_mem hi,h⟩
 have HS2:Hid (NoB R.nots (fun p=>all.any (blockB b.types R tuple p)) R.nots.length→blockedB b.types R tuple all=false):=fun h=>by
  refine List.any_eq_false.2 fun p hp=>?_
  obtain⟨i,hi,rfl⟩:=List.mem_iff_getElem.1 hp
  simp[h i hi hi]
 have HE1:Hid (∀ i (hi:i<R.manies.length),manyN b.types R tuple all R.manies[i]<R.manies[i].count→enoughB b.types R tuple all=false):=fun i hi h=>List.all_eq_false.2 ⟨_,List.getElem_mem hi,by simp[h]⟩
 have HE2:Hid (NoB R.manies (fun m=>decide (manyN b.types R tuple all m<m.count)) R.manies.length→enoughB b.types R tuple all=true):=fun h=>by
  refine List.all_eq_true.2 fun p hp=>?_
  obtain⟨i,hi,rfl⟩:=List.mem_iff_getElem.1 hp
  simpa using h i hi hi
 clear X1 Y1 Y2 Y3 Y4 X3 X4 hts h0 hr hR T evU evA hfw hz HV
 generalize blockedB b.types R tuple all=bl at HS1 HS2 ⊢
 generalize enoughB b.types R tuple all=en at HE1 HE2 ⊢
 unfold rulC at HBK HTK ⊢
 replace hg:=Lib.hid hg
 go_enter Tryz.func27,Tryz.ntmps27
 go_wp2_with (with_reducible (refine wB (L:=[]) M ?_;clear M;intro za w1 M))
 go_loopg [9] m2 (fun f i wr=> ∃ (j:Nat),j+f=m2∧i= .int .i64 j∧Mem (StaysB g w0) g w0 wr ⟨0,0⟩ (own za [.string R.name,.slice b1 m1 e1,.slice b2 m2 e2,.slice b3 m3 e3,.slice b4 m4 e4,.string R.etype,.slice b6 m6 e6] 60::[])∧Hid (NoB R.nots (fun p=>all.any (blockB b.types R tuple p)) j))
 case atStart=>exact⟨0,by omega,rfl,M,noB_zero _ _⟩
 case round=>
  clear M
  obtain⟨i,hj,rfl,M,HB⟩:=hrel
  by_cases hlt:i<m2
  ·have hkl:i<R.nots.length:=by have:=N2.out;omega
   obtain⟨ca,oa,rowa,hixa, -,hrra,hwa⟩:=SlF.rowAt (P:=Tryz.prog) HY2.out patF_firm Tryz.underlying53 size_pat (i:=i) hkl
   obtain⟨so,sn,sc,ea,hS⟩:=hrra
   subst ea
   have HRP:=Lib.hid (fun wx hb=>(hwa wx hb).1)
   have HBK2:=Lib.hid (fun wx x p q c hb hv hx=>HBK.out wx i hkl so sn sc x p q c hb hS hv hx)
   have HS3:=Lib.hid (HS1.out i hkl)
   have HB2:Hid (all.any (blockB b.types R tuple R.nots[i])=false→NoB R.nots (fun p=>all.any (blockB b.types R tuple p)) (i+1)):=fun h=>noB_succ HB.out hkl h
   clear hwa HB hS
   generalize R.nots[i]=P at HRP HBK2 HS3 HB2
   clear hkl
   unfold patC cndC opdC at HRP HBK2
   simp only[List.cons_append,List.nil_append]at HRP HBK2
   go_wp2_with (with_reducible refine wq M ?_)
   go_loopg [10] n4 (fun f ii wr=> ∃ (j:Nat),j+f=n4∧ii= .int .i64 j∧Mem (StaysB g w0) g w0 wr ⟨0,0⟩ (own za [.string R.name,.slice b1 m1 e1,.slice b2 m2 e2,.slice b3 m3 e3,.slice b4 m4 e4,.string R.etype,.slice b6 m6 e6] 60::[])∧Hid (NoB all (blockB b.types R tuple P) j))
   case atStart=>exact⟨0,by omega,rfl,M,noB_zero _ _⟩
   case round=>
    clear M
    obtain⟨j,hj2,rfl,M,HN⟩:=hrel
    by_cases hlt2:j<n4
    ·have hal:j<all.length:=by have:=N4.out;omega
     obtain⟨cx,ox,rowx,hixx, -,hrrx,hwx⟩:=SlF.rowAt (P:=Tryz.prog) HX4.out eveF_firm Tryz.underlying26 size_eve (i:=j) hal
     obtain⟨px,qx,rx,ex,ux⟩:=hrrx
     subst ex
     have HRX:=Lib.hid (fun wx hb=>(hwx wx hb).1)
     have HBK3:=Lib.hid (fun wx hb=>HBK2.out wx all[j] px qx rx hb ux (HEA.out _ (List.getElem_mem hal)))
     have HS4:Hid (blockB b.types R tuple P all[j]=true→bl=true):=fun h=>HS3.out (List.any_eq_true.2 ⟨_,List.getElem_mem hal,h⟩)
     have HN2:Hid (blockB b.types R tuple P all[j]=false→NoB all (blockB b.types R tuple P) (j+1)):=fun h=>noB_succ HN.out hal h
     clear hwx ux HN
     generalize blockB b.types R tuple P all[j]=bb at HBK3 HS4 HN2
     generalize all[j]=x at HRX HBK3
     clear hal
     go_wp2_with (with_reducible (first|refine wq M ?_|(refine wS M ?_;clear M;intro w M)|(refine wV M ?_;clear M;intro z w M)|(refine wR M ?_;clear M;intro q w M)))
     ((refine wp_region_calm M (by kernel_rfl) (by kernel_rfl) ?_);(repeat((with_reducible refine c_list rfl fun K hK=>?_);(first|(refine c_load (l' :=?_) ⟨_,M⟩ (fun w M=>?_) ?_;rotate_left;focus((first|(refine q_at (HRP.out _ M.new) (by rfl) ?_)|(refine q_at (HRX.out _ M.new) (by rfl) ?_)|refine q_get M (by exact rfl) ?_|refine q_all M (by rfl) ?_);refine⟨rfl,?_⟩;with_reducible rfl))|(refine c_call (n:=51) (args:=?_) (v:=?_) (fun w=>?_) (fun w M=>?_) ?_;rotate_left 2;(focus(go_simp;try with_reducible rfl));(focus(with_reducible refine(HBK3.out _ M.new).mono ?_;rintro e w5 ⟨rfl,hb5⟩;refine⟨?_,M.below hb5⟩;with_reducible rfl)))|(refine c_pure (v:=?_) (fun w=>?_) ?_;rotate_left;focus(go_simp;try with_reducible rfl)));(try go_simp);with_reducible refine hK _ ?_;clear hK K));(refine wpQuiet_nil ?_);clear M;intro w M)
     cases bb with
     |true=>
      obtain rfl:bl=true:=HS4.out rfl
      clear HS4 HN2
      go_wp2_with (with_reducible (first|refine wq M ?_|(refine wS M ?_;clear M;intro w M)|(refine wV M ?_;clear M;intro z w M)|(refine wR M ?_;clear M;intro q w M)))
      go_ret
      exact⟨rfl,M.new⟩
     |false=>
      have HV:=Lib.hid (HN2.out rfl)
      clear HS4 HN2
      go_wp2_with (with_reducible (first|refine wq M ?_|(refine wS M ?_;clear M;intro w M)|(refine wV M ?_;clear M;intro z w M)|(refine wR M ?_;clear M;intro q w M)))
      go_roundg (n4 - (j+1))
      case measure=>omega
      case rel=>exact⟨j+1,by omega,by go_num,M,HV⟩
    ·have hje:j=all.length:=by have:=N4.out;omega
     have HV:=Lib.hid (HB2.out (by
      refine List.any_eq_false.2 fun x hx=>?_
      obtain⟨i2,hi2,rfl⟩:=List.mem_iff_getElem.1 hx
      simp[HN.out i2 hi2 (by omega)]))
     clear HN HB2 HS3 HBK2
     go_wp2_with (with_reducible (first|refine wq M ?_|(refine wS M ?_;clear M;intro w M)|(refine wV M ?_;clear M;intro z w M)|(refine wR M ?_;clear M;intro q w M)))
     go_roundg (m2 - (i+1))
     case measure=>omega
     case rel=>exact⟨i+1,by omega,by go_num,M,HV⟩
  ·have hje:i=R.nots.length:=by have:=N2.out;omega
   obtain rfl:bl=false:=HS2.out (hje▸HB.out)
   clear HB hje HS1 HS2 HBK
   obtain⟨last,hlast⟩: ∃ last,lastE tuple=last:=⟨_,rfl⟩
   rw[hlast]at HLB HLE
   have HLA:=Lib.hid hlast
   clear hlast
   go_wp2_with (first|(with_reducible refine wq M ?_)|(go_at_call 52;with_reducible refine(HLE.out _ M.new).mono ?_;rintro e w5 ⟨rfl,hb5⟩;replace M:=M.below hb5;clear hb5))
   go_loopg [12] m3 (fun f i wr=> ∃ (j:Nat),j+f=m3∧i= .int .i64 j∧Mem (StaysB g w0) g w0 wr ⟨0,0⟩ (own za [.string R.name,.slice b1 m1 e1,.slice b2 m2 e2,.slice b3 m3 e3,.slice b4 m4 e4,.string R.etype,.slice b6 m6 e6] 60::[])∧Hid (NoB R.manies (fun m=>decide (manyN b.types R tuple all m<m.count)) j))
   case atStart=>exact⟨0,by omega,rfl,M,noB_zero _ _⟩
   case round=>
    clear M
    obtain⟨i,hj,rfl,M,HB⟩:=hrel
    by_cases hlt:i<m3
    ·have hkl:i<R.manies.length:=by have:=N3.out;omega
     obtain⟨ca,oa,rowa,hixa, -,hrra,hwa⟩:=SlF.rowAt (P:=Tryz.prog) HY3.out manF_firm Tryz.underlying54 size_man (i:=i) hkl
     obtain⟨so,sn,sc,ea,hS⟩:=hrra
     subst ea
     have HRM:Hid (∀ wx,Below w0.heap.size w0 wx→wx.rangeAt ca (oa+2) (patC R.manies[i].pat so sn sc)):=fun wx hb=>range_sub (hwa wx hb).1 2 (patC R.manies[i].pat so sn sc) rfl
     have HMN0:Hid (∀ wx,Below w0.heap.size w0 wx→wx.cell? ⟨ca,oa+2+17,none⟩=some (.int .i64 R.manies[i].pat.n)):=fun wx hb=>(hwa wx hb).1 19 _ rfl
     have HMC0:Hid (∀ wx,Below w0.heap.size w0 wx→wx.cell? ⟨ca,oa,none⟩=some (.int .i64 R.manies[i].count)):=fun wx hb=>(hwa wx hb).1 0 _ rfl
     have HMF0:Hid (∀ wx,Below w0.heap.size w0 wx→wx.cell? ⟨ca,oa+1,none⟩=some (.string R.manies[i].field)):=fun wx hb=>(hwa wx hb).1 1 _ rfl
     have HTK2:=Lib.hid (fun wx x p q c hb hv hx=>HTK.out wx i hkl so sn sc x p q c hb hS hv hx)
     obtain⟨hw0,hw1, -, -⟩:=many_win HZ.out hkl
     have HMF:=Lib.hid (many_field HB0.out HZ.out hkl)
     have HE3:=Lib.hid (HE1.out i hkl)
     have HB2:Hid (¬ manyN b.types R tuple all R.manies[i]<R.manies[i].count→NoB R.manies (fun m=>decide (manyN b.types R tuple all m<m.count)) (i+1)):=fun h=>noB_succ HB.out hkl (by simpa using h)
     have HMN:Hid (∀ j (hj:j<all.length),(all.take (j+1)).foldl (manyS b.types R tuple R.manies[i]) 0=_):=fun j hj=>manyN_snoc hj
     clear hwa HB hS
     generalize R.manies[i]=m at HRM HMN0 HMC0 HMF0 HTK2 HMF HE3 HB2 HMN hw0 hw1
     clear hkl
     have hwl:IntKind.i64.wrap (last - m.pat.n)=last - m.pat.n:=IntWalk.i64_in _ (by have:=HLB.out;omega)
     replace hw0:=Lib.hid hw0
     replace hw1:=Lib.hid hw1
     unfold patC cndC opdC at HRM HTK2
     simp only[List.cons_append,List.nil_append]at HRM HTK2
     go_wp2_with (with_reducible refine wq M ?_)
     go_loopg [13,14] n4 (fun f n ii wr=> ∃ (j:Nat),j+f=n4∧n= .int .i64 ((all.take j).foldl (manyS b.types R tuple m) 0)∧ii= .int .i64 j∧Mem (StaysB g w0) g w0 wr ⟨0,0⟩ (own za [.string R.name,.slice b1 m1 e1,.slice b2 m2 e2,.slice b3 m3 e3,.slice b4 m4 e4,.string R.etype,.slice b6 m6 e6] 60::[]))
     case atStart=>exact⟨0,by omega,rfl,rfl,M⟩
     case round=>
      clear M
      obtain⟨j,hj2,rfl,rfl,M⟩:=hrel
      by_cases hlt2:j<n4
      ·have hal:j<all.length:=by have:=N4.out;omega
       obtain⟨cx,ox,rowx,hixx, -,hrrx,hwx⟩:=SlF.rowAt (P:=Tryz.prog) HX4.out eveF_firm Tryz.underlying26 size_eve (i:=j) hal
       obtain⟨px,qx,rx,ex,ux⟩:=hrrx
       subst ex
       have HRX:=Lib.hid (fun wx hb=>(hwx wx hb).1)
       have HXE:Hid (∀ wx,Below w0.heap.size w0 wx→wx.cell? ⟨cx,ox+2+1,none⟩=some (.int .i64 all[j].e.stop)):=fun wx hb=>(hwx wx hb).1 3 _ rfl
       have HXT:Hid (∀ wx,Below w0.heap.size w0 wx→wx.cell? ⟨cx,ox+1,none⟩=some (.int .i64 all[j].e.type)):=fun wx hb=>(hwx wx hb).1 1 _ rfl
       have HXV:Hid (∀ wx,Below w0.heap.size w0 wx→wx.cell? ⟨cx,ox+4,none⟩=some (.slice px qx rx)):=fun wx hb=>(hwx wx hb).1 4 _ rfl
       have HEX:=Lib.hid (HEA.out _ (List.getElem_mem hal))
       have HTK3:=Lib.hid (fun wx hb=>HTK2.out wx all[j] px qx rx hb ux HEX.out)
       have HSN:=Lib.hid (HMN.out j hal)
       have HUX:=Lib.hid ux
       clear hwx ux
       generalize all[j]=x at HRX HXE HXT HEX HTK3 HSN HUX
       clear hal
       generalize (all.take j).foldl (manyS b.types R tuple m) 0=nn at HSN ⊢
       have HTV:Hid (takenB b.types R.whens tuple x m.pat=true→typAt b.types m.pat.type=evT b.types x):=fun h=>typAt_of HB0.out (evGood_of HEX.out) (by unfold takenB at h;simp only[Bool.and_eq_true]at h;exact h.1)
       have HM0:Hid (nearB last m.pat.n x=false→(all.take (j+1)).foldl (manyS b.types R tuple m) 0=nn):=fun h=>by rw[HSN.out];unfold manyS;rw[HLA.out,if_neg (by rw[h];simp)]
       have HM1:Hid (takenB b.types R.whens tuple x m.pat=false→(all.take (j+1)).foldl (manyS b.types R tuple m) 0=nn):=fun h=>by rw[HSN.out];unfold manyS;rw[if_neg (by rw[h];simp)]
       have HM2:Hid (nearB last m.pat.n x=true→takenB b.types R.whens tuple x m.pat=true→(all.take (j+1)).foldl (manyS b.types R tuple m) 0=IntKind.i64.wrap (nn+if emS m.field=true then 1 else(fldV b.types x m.field).int)):=fun h h' =>by rw[HSN.out];unfold manyS;rw[HLA.out,if_pos ⟨h,h'⟩]
       have HIN:Hid (∀ wx,Below w0.heap.size w0 wx→Calls Tryz.prog 21 #[.int .i64 x.e.stop,.int .i64 (last - m.pat.n),.int .i64 last] wx fun e w' =>e= .returned (.bool (nearB last m.pat.n x))∧Below wx.heap.size wx w'):=fun wx hb=>inB_is2 _ _ _ _ (near_in last m.pat.n x) wx
       clear HSN
       generalize nearB last m.pat.n x=nb at HIN HM0 HM2
       obtain⟨tB,hB⟩: ∃ tB,takenB b.types R.whens tuple x m.pat=tB:=⟨_,rfl⟩
       rw[hB]at HTK3 HTV HM1 HM2
       clear hB
       go_wp2_with (with_reducible (first|refine wq M ?_|(refine wS M ?_;clear M;intro w M)|(refine wV M ?_;clear M;intro z w M)|(refine wR M ?_;clear M;intro q w M)))
       ((refine wp_region_calm M (by kernel_rfl) (by kernel_rfl) ?_);(repeat((with_reducible refine c_list rfl fun K hK=>?_);(first|(refine c_load (l' :=?_) ⟨_,M⟩ (fun w M=>?_) ?_;rotate_left;focus((first|(refine q_cellat (HXE.out _ M.new) ?_)|(refine q_cellat (HMN0.out _ M.new) ?_)|refine q_get M (by exact rfl) ?_);refine⟨rfl,?_⟩;with_reducible rfl))|(refine c_call (n:=21) (args:=?_) (v:=?_) (fun w=>?_) (fun w M=>?_) ?_;rotate_left 2;(focus(go_simp;try with_reducible rfl));(focus(with_reducible refine(HIN.out _ M.new).mono ?_;rintro e w5 ⟨rfl,hb5⟩;refine⟨?_,M.below hb5⟩;with_reducible rfl)))|(refine c_pure (v:=?_) (fun w=>?_) ?_;rotate_left;focus(go_simp;try with_reducible rfl)));(try go_simp);with_reducible refine hK _ ?_;clear hK K));(refine wpQuiet_nil ?_);clear M;intro w M)
       go_wp2_with (with_reducible (first|refine wq M ?_|(refine wS M ?_;clear M;intro w M)|(refine wV M ?_;clear M;intro z w M)|(refine wR M ?_;clear M;intro q w M)))
       cases nb with
       |false=>
        have HV:=Lib.hid (HM0.out rfl)
        clear HM0 HM1 HM2 HTV
        ((refine wp_region_calm M (by kernel_rfl) (by kernel_rfl) ?_);(repeat(first|((with_reducible refine c_list rfl fun K hK=>?_);(refine c_pure (v:=?_) (fun w=>?_) ?_;rotate_left;focus(go_simp;try with_reducible rfl));(try go_simp);with_reducible refine hK _ ?_;clear hK K)|(with_reducible refine c_skipF ?_)));(refine wpQuiet_nil ?_);clear M;intro w M)
        go_wp2_with (with_reducible (first|refine wq M ?_|(refine wS M ?_;clear M;intro w M)|(refine wV M ?_;clear M;intro z w M)|(refine wR M ?_;clear M;intro q w M)))
        go_roundg (n4 - (j+1))
        case measure=>omega
        case rel=>exact⟨j+1,by omega,by rw[HV.out]<;>exact congrArg _ (wrap_w _).symm,by go_num,M⟩
       |true=>
        ((refine wp_region_calm M (by kernel_rfl) (by kernel_rfl) ?_);(repeat(first|((with_reducible refine c_list rfl fun K hK=>?_);(refine c_pure (v:=?_) (fun w=>?_) ?_;rotate_left;focus(go_simp;try with_reducible rfl));(try go_simp);with_reducible refine hK _ ?_;clear hK K)|((with_reducible refine c_listg fun K hK=>?_);(first|(refine c_load (l' :=?_) ⟨_,M⟩ (fun w M=>?_) ?_;rotate_left;focus((first|(refine q_at (HRM.out _ M.new) (by rfl) ?_)|(refine q_at (HRX.out _ M.new) (by rfl) ?_)|refine q_get M (by exact rfl) ?_|refine q_all M (by rfl) ?_);refine⟨rfl,?_⟩;with_reducible rfl))|(refine c_call (n:=53) (args:=?_) (v:=?_) (fun w=>?_) (fun w M=>?_) ?_;rotate_left 2;(focus(go_simp;try with_reducible rfl));(focus(with_reducible refine(HTK3.out _ M.new).mono ?_;rintro e w5 ⟨rfl,hb5⟩;refine⟨?_,M.below hb5⟩;with_reducible rfl)))|(refine c_pure (v:=?_) (fun w=>?_) ?_;rotate_left;focus(go_simp;try with_reducible rfl)));(try go_simp);with_reducible refine hK _ ?_;clear hK K)));(refine wpQuiet_nil ?_);clear M;intro w M)
        cases tB with
        |false=>
         have HV:=Lib.hid (HM1.out rfl)
         clear HM0 HM1 HM2 HTV
         go_wp2_with (with_reducible (first|refine wq M ?_|(refine wS M ?_;clear M;intro w M)|(refine wV M ?_;clear M;intro z w M)|(refine wR M ?_;clear M;intro q w M)))
         go_roundg (n4 - (j+1))
         case measure=>omega
         case rel=>exact⟨j+1,by omega,by rw[HV.out]<;>exact congrArg _ (wrap_w _).symm,by go_num,M⟩
        |true=>
         have hty:=HTV.out rfl
         have hV0:=HM2.out rfl rfl
         rcases HMF.out with⟨he,hn⟩|⟨he,hn⟩
         ·rw[he,if_pos rfl]at hV0
          have HV:=Lib.hid hV0
          have hem:m.field.toList.isEmpty=true:=he
          clear HM0 HM1 HM2 HTV hty hV0 he hn
          go_wp2_with (with_reducible (first|refine wq M ?_|refine wC (HMF0.out _ M.new) ?_))
          go_roundg (n4 - (j+1))
          case measure=>omega
          case rel=>exact⟨j+1,by omega,by rw[HV.out]<;>exact congrArg _ (wrap_w _).symm,by go_num,M⟩
         ·rw[he,if_neg (by simp)]at hV0
          have hem:m.field.toList.isEmpty=false:=he
          have hgx:=evGood_of HEX.out
          have htl:x.e.type.toNat<b.types.length:=by have:=hgx.lo;have:=hgx.hi;omega
          have hte:evT b.types x=b.types[x.e.type.toNat]:=by unfold evT;simp[List.getD,List.getElem?_eq_getElem htl]
          obtain⟨ct,ot,rowt,hixt, -,hrrt,hwt⟩:=SlF.rowAt (P:=Tryz.prog) HX1.out typF_firm Tryz.underlying22 size_typ (i:=x.e.type.toNat) htl
          rw[show((x.e.type.toNat:Nat):Int)=x.e.type from Int.toNat_of_nonneg hgx.lo]at hixt
          obtain⟨pf,qf,rf,et,uf⟩:=hrrt
          subst et
          have hto:=HTS.out _ (List.getElem_mem htl)
          have HTR:=Lib.hid (fun wx hb=>(hwt wx hb).1)
          rw[hty]at hn
          have hJ:fldAt (evT b.types x).fields m.field<x.vals.length:=by rw[hgx.len];exact hn
          have HFA:Hid (∀ wx,Below w0.heap.size w0 wx→Calls Tryz.prog 54 #[.agg #[.string b.types[x.e.type.toNat].name,.slice pf qf rf],.string m.field] wx fun e w' =>e= .returned (.int .i64 (fldAt (evT b.types x).fields m.field:Nat))∧Below wx.heap.size wx w'):=fun wx hb=>by
           have h1:=fieldAt_any b.types[x.e.type.toNat].name pf qf rf b.types[x.e.type.toNat].fields m.field wx (fld_R (uf.below (plainF_firm _) hb) hto.2)
           rw[←hte,show atI (evT b.types x).fields m.field=(fldAt (evT b.types x).fields m.field:Nat)by unfold atI;rw[if_pos hn]]at h1
           rw[←hte]
           exact h1
          obtain⟨cv,ov,rowv,hixv, -,hrrv,hwv⟩:=SlF.rowAt (P:=Tryz.prog) HUX.out (plainF_firm _) Tryz.underlying63 size_value (i:=fldAt (evT b.types x).fields m.field) hJ
          have ev:rowv=valC x.vals[fldAt (evT b.types x).fields m.field]:=hrrv
          have hfv:fldV b.types x m.field=x.vals[fldAt (evT b.types x).fields m.field]:=by unfold fldV;simp[List.getD,List.getElem?_eq_getElem hJ]
          rw[←hfv]at ev
          subst ev
          have HVC:Hid (∀ wx,Below w0.heap.size w0 wx→wx.cell? ⟨cv,ov+1,none⟩=some (.int .i64 (fldV b.types x m.field).int)):=fun wx hb=>(hwv wx hb).1 1 _ rfl
          have HV:=Lib.hid hV0
          have hJb:fldAt (evT b.types x).fields m.field≤1000000:=by have:=typ_few hgx.ty;omega
          unfold typC at HTR
          generalize (fldV b.types x m.field).int=fx at HVC HV
          generalize fldAt (evT b.types x).fields m.field=J at *
          generalize b.types[x.e.type.toNat]=tt at HTR HFA
          clear HM0 HM1 HM2 HTV hty hV0 he hn hJ hwv hrrv hfv hgx htl hte hwt uf hto
          go_wp2_with (with_reducible (first|refine wq M ?_|refine wC (HMF0.out _ M.new) ?_))
          ((refine wp_region_calm M (by kernel_rfl) (by kernel_rfl) ?_);(repeat((with_reducible refine c_list rfl fun K hK=>?_);(first|(refine c_load (l' :=?_) ⟨_,M⟩ (fun w M=>?_) ?_;rotate_left;focus((first|(refine q_cellat (HXV.out _ M.new) ?_)|(refine q_cellat (HXT.out _ M.new) ?_)|(refine q_cellat (HMF0.out _ M.new) ?_)|(refine q_cellat (HVC.out _ M.new) ?_)|(refine q_at (HTR.out _ M.new) (by rfl) ?_)|refine q_get M (by exact rfl) ?_);refine⟨rfl,?_⟩;with_reducible rfl))|(refine c_call (n:=54) (args:=?_) (v:=?_) (fun w=>?_) (fun w M=>?_) ?_;rotate_left 2;(focus(go_simp;try with_reducible rfl));(focus(with_reducible refine(HFA.out _ M.new).mono ?_;rintro e w5 ⟨rfl,hb5⟩;refine⟨?_,M.below hb5⟩;with_reducible rfl)))|(refine c_pure (v:=?_) (fun w=>?_) ?_;rotate_left;focus(go_simp;try with_reducible rfl)));(try go_simp);with_reducible refine hK _ ?_;clear hK K));(refine wpQuiet_nil ?_);clear M;intro w M)
          go_wp2_with (with_reducible (first|refine wq M ?_|(refine wS M ?_;clear M;intro w M)|(refine wV M ?_;clear M;intro z w M)|(refine wR M ?_;clear M;intro q w M)))
          go_roundg (n4 - (j+1))
          case measure=>omega
          case rel=>exact⟨j+1,by omega,by rw[HV.out]<;>exact congrArg _ (wrap_w _).symm,by go_num,M⟩
      ·have hje:all.take j=all:=List.take_of_length_le (by have:=N4.out;omega)
       have hmn:(all.take j).foldl (manyS b.types R tuple m) 0=manyN b.types R tuple all m:=by rw[hje];rfl
       rw[hmn]
       clear hje hmn HMN
       obtain⟨u,hu⟩: ∃ u,decide (manyN b.types R tuple all m<m.count)=u:=⟨_,rfl⟩
       generalize manyN b.types R tuple all m=q at hu HE3 HB2 ⊢
       cases u with
       |true=>
        obtain rfl:en=false:=HE3.out (by simpa using hu)
        clear HE3 HB2
        go_wp2_with (with_reducible (first|refine wq M ?_|refine wC (HMC0.out _ M.new) ?_))
        go_ret
        exact⟨rfl,M.new⟩
       |false=>
        have HV:=Lib.hid (HB2.out (by simpa using hu))
        clear HE3 HB2
        go_wp2_with (with_reducible (first|refine wq M ?_|refine wC (HMC0.out _ M.new) ?_))
        go_roundg (m3 - (i+1))
        case measure=>omega
        case rel=>exact⟨i+1,by omega,by go_num,M,HV⟩
    ·have hje:i=R.manies.length:=by have:=N3.out;omega
     obtain rfl:en=true:=HE2.out (hje▸HB.out)
     clear HB
     go_wp2_with (with_reducible refine wq M ?_)
     go_ret
     exact⟨rfl,M.new⟩
end
end Go.Proofs.YtfahleafppfkaaaGreatDoor
