/-
  The reference's latest; one row of a slice as a slice. Printed by plw.py.
-/
import Derived.Test.YtncmghnhfipklaaGreatDoorPw29
import Derived.Test.YtncmghnhfipklaaGreatDoorPw28
namespace Go.Proofs.YtncmghnhfipklaaGreatDoor
open Go.RowKit
set_option linter.unusedVariables false
set_option linter.unusedSimpArgs false
theorem SlF.cutOne{α:Type}{F:Nat→Prop}{k:Nat}{R:(Nat→Prop)→World→List Value→α→Prop}{a:Option Addr}{n c:Nat}{xs:List α}{w:World}{P:Program}{t e:Nat}(h:SlF F w k R a n c xs)(ht:P.underlying t=some (.slice e))(hs:SizeIs P e k){i:Nat}(hi:i<xs.length):
  ∃ sa sc,(∀ wx,(Instr.sliceAt t (.slice a n c) (some (.int .i64 (i:Int))) (some (.int .i64 ((i:Int)+1))) none).run P wx= .ok (.slice sa 1 sc) wx)∧(∀ wx,(Instr.slice t (.slice a n c) (some (.int .i64 (i:Int))) (some (.int .i64 ((i:Int)+1))) none).run P wx= .ok (.slice sa 1 sc) wx)∧SlF F w k R sa 1 sc [xs[i]]:=by
 obtain⟨h1,h2,h3,h5,h4⟩:=h
 obtain⟨b,off,row,rfl,hF,hlt,hr,hR⟩:=h4 i hi
 have hel:P.elem t=e:=by simp[Program.elem,ht]
 have ht2:P.underlying t=some (.slice (P.elem t)):=by rw[hel];exact ht
 have hsl: ∀ wx,(Instr.slice t (.slice (some ⟨b,off,none⟩) n c) (some (.int .i64 (i:Int))) (some (.int .i64 ((i:Int)+1))) none).run P wx= .ok (.slice (some ⟨b,off+i*k,none⟩) 1 (c - i)) wx:=fun wx=>by
  rw[run_slice_lh wx t _ n c ht2 _ _ _ _ (by omega) (by omega) (by omega),hel,hs wx]
  have e2:((i:Int)+1).toNat=i+1:=by omega
  simp only[Result.andThen,sliced,e2,Int.toNat_natCast,Option.map_some,Addr.add]
  rw[if_neg (by omega)]
  simp
 refine⟨_,_,fun wx=>by rw[run_sliceAt_slice wx t _ _ _ _ ht2];exact hsl wx,hsl,rfl,by omega,by omega,fun h=>(by cases h),fun j hj=>?_⟩
 have e0:j=0:=by simpa using hj
 subst e0
 exact⟨b,off+i*k,row,rfl,hF,hlt,by simpa using hr,hR⟩
section
variable {x:Rul}
theorem notD_le(d:Int)(n:Pat):d≤notD x d n:=by
 unfold notD
 cases wholeF x [n]with
 |none=>exact Int.le_refl _
 |some g=>simp only;omega
theorem delayF_mono{j:Nat}: ∀ k,j+k≤x.nots.length→delayF x j≤delayF x (j+k)
 |0,_=>Int.le_refl _
 |k+1,h=>by
  rw[←Nat.add_assoc,delayF_next (by omega)]
  exact Int.le_trans (delayF_mono k (by omega)) (notD_le _ _)
theorem delay_end(h:RulPl x){j:Nat}(hj:j<x.nots.length){D:Int}(hD:D=delayF x j){g:Mx}(hw:wholeF x [x.nots[j]]=some g)(hl:leastF g x.whens.length=NOB):delayF x x.nots.length=NOB:=by
 have h1:=delayF_next hj
 unfold notD at h1
 rw[hw]at h1
 simp only[hl]at h1
 have h2:=delayF_mono (x:=x) (j:=j+1) (x.nots.length - (j+1)) (by omega)
 rw[show j+1+(x.nots.length - (j+1))=x.nots.length by omega]at h2
 have h3:=delayF_rg h x.nots.length (Nat.le_refl _)
 omega
end
section
variable {g:Nat} {w0:World} {ao:Option Addr} {n cap:Nat} {G:Mx}
theorem latK_one(G:Mx)(p:Nat):latK G p 1=G 1 p:=by
 rw[latK_next]
 show max (G 1 p) (G 1 p)=_
 omega
set_option maxRecDepth 8000 in
set_option maxHeartbeats 8000000 in
theorem latest_any(hg:g<w0.heap.size)(HL:LinesAt w0 ao n cap G){k a:Nat}(hp:2*a+1<n)(h1:1≤k)(hk:2*k≤n)(hkm:k≤1000)(ham:a≤1000):
  Calls Tryz.prog 34 #[.slice ao n cap,.int .i64 k,.int .i64 a] w0 fun e w' =>e= .returned (.int .i64 (latF G k (2*a+1)))∧Below w0.heap.size w0 w' :=by
 have M:=Mem.begin hg ⟨0,0⟩
 have HLL:=Lib.hid HL
 have HE:Hid (latK G (2*a+1) k=latF G k (2*a+1)):=rfl
 have HO:=Lib.hid (latK_one G (2*a+1))
 obtain⟨A1,o1,ra1,rc1,hix1,hc1,hj1⟩:=HL 1 (by omega)
 obtain⟨B1,q1,hiy1,hv1⟩:=hj1 (2*a+1) hp
 have hixA: ∀ wx,(Instr.indexAt 78 (.slice ao n cap) (.int .i64 1)).run Tryz.prog wx= .ok (.pointer (some ⟨A1,o1+1,none⟩)) wx:=hix1
 have hiyA: ∀ wx,(Instr.indexAt 26 (.slice ra1 n rc1) (.int .i64 (2*(a:Int)+1))).run Tryz.prog wx= .ok (.pointer (some ⟨B1,q1+(2*a+1),none⟩)) wx:=hiy1
 have HC1:=Lib.hid hc1
 have HV1:=Lib.hid hv1
 clear hg HL hc1 hj1 hv1 hix1 hiy1
 go_enter Tryz.func34,Tryz.ntmps34
 go_wp2_with (with_reducible (first|refine wC (HC1.out _ M.new) ?_|refine wC (HV1.out _ M.new) ?_))
 clear hixA hiyA HC1 HV1
 go_loopg [7,8] k (fun f b i wr=> ∃ j:Nat,j+f=k+1∧1≤j∧j≤k∧i= .int .i64 j∧b= .int .i64 (latK G (2*a+1) j)∧Mem (StaysB g w0) g w0 wr ⟨0,0⟩ [])
 case atStart=>exact⟨1,by omega,Nat.le_refl _,h1,rfl,by rw[HO.out],M⟩
 case round=>
  clear M
  obtain⟨j,hjk,hj1,hjk2,rfl,rfl,M⟩:=hrel
  by_cases hlt:j<k
  ·have hjm:j≤1000:=by omega
   obtain⟨A2,o2,ra2,rc2,hix2,hc2,hj2⟩:=HLL.out (2*j+1) (by omega)
   obtain⟨B2,q2,hiy2,hv2⟩:=hj2 (2*a+1) hp
   have hixB: ∀ wx,(Instr.indexAt 78 (.slice ao n cap) (.int .i64 (2*(j:Int)+1))).run Tryz.prog wx= .ok (.pointer (some ⟨A2,o2+(2*j+1),none⟩)) wx:=hix2
   have hiyB: ∀ wx,(Instr.indexAt 26 (.slice ra2 n rc2) (.int .i64 (2*(a:Int)+1))).run Tryz.prog wx= .ok (.pointer (some ⟨B2,q2+(2*a+1),none⟩)) wx:=hiy2
   have HC2:=Lib.hid hc2
   have HV2:=Lib.hid hv2
   have HN:=Lib.hid (latK_next G (2*a+1) j)
   clear hc2 hj2 hv2 hix2 hiy2
   generalize latK G (2*a+1) j=v at HN
   generalize G (2*j+1) (2*a+1)=y at HN HV2
   by_cases hvy:v<y
   ·have hcd:decide (v<y)=true:=by simpa using hvy
    have HM:Hid (latK G (2*a+1) (j+1)=y):=by show _=_;rw[HN.out];omega
    go_wp2_with (with_reducible (first|refine wC (HC2.out _ M.new) ?_|refine wC (HV2.out _ M.new) ?_))
    go_roundg (k - j)
    case measure=>omega
    case rel=>exact⟨j+1,by omega,by omega,by omega,by go_num,by rw[HM.out],M⟩
   ·have hcd:decide (v<y)=false:=by simpa using hvy
    have HM:Hid (latK G (2*a+1) (j+1)=v):=by show _=_;rw[HN.out];omega
    go_wp2_with (with_reducible (first|refine wC (HC2.out _ M.new) ?_|refine wC (HV2.out _ M.new) ?_))
    go_roundg (k - j)
    case measure=>omega
    case rel=>exact⟨j+1,by omega,by omega,by omega,by go_num,by rw[HM.out],M⟩
  ·have e:j=k:=by omega
   subst e
   go_wp2_with (with_reducible (first|refine wq M ?_|(refine wS M ?_;clear M;intro w M)|(refine wV M ?_;clear M;intro z w M)|(refine wR M ?_;clear M;intro q w M)))
   go_ret
   rw[HE.out]
   exact⟨rfl,M.new⟩
theorem latest_D{F:Nat→Prop}(hg:g<w0.heap.size)(h:MatD ao n cap G F w0){k a:Nat}(hp:2*a+1<n)(h1:1≤k)(hk:2*k≤n)(hkm:k≤1000)(ham:a≤1000):
  Calls Tryz.prog 34 #[.slice ao n cap,.int .i64 k,.int .i64 a] w0 fun e w' =>e= .returned (.int .i64 (latF G k (2*a+1)))∧Below w0.heap.size w0 w' :=latest_any hg h.lines hp h1 hk hkm ham
end
instance iOneFrm:OneI Tryz.prog 69:=⟨⟨by kernel_rfl,_,Tryz.underlying69,rfl⟩⟩
instance iRowFrm:RowI Tryz.prog 72 69 1:=⟨⟨Tryz.underlying72,⟨.pointer none,by kernel_rfl,rfl⟩,by kernel_rfl,by kernel_rfl,by omega,by omega⟩⟩
instance iStPln:StI Tryz.prog 28 4:=⟨by kernel_rfl,_,Tryz.underlying28,rfl⟩
instance iZePln:ZeI Tryz.prog 28 [.int .i64 0,.slice none 0 0,.slice none 0 0,.slice none 0 0]:=⟨⟨by kernel_rfl⟩⟩
theorem size_frp:SizeIs Tryz.prog 69 1:=fun w=>by kernel_rfl
section
variable {g:Nat} {w0:World} {x:Rul} {a1 a2 a3 a4 a6:Option Addr} {n1 c1 n2 c2 n3 c3 n4 c4 n6 c6:Nat} {F:Nat→Prop}
def behindK(f:Mx)(w:Nat)(D:Int)(j:Nat):List Int:=(List.range j).map fun i=>plusF (latF f w (2*i+1)) (D+1)
theorem behindK_next(f:Mx)(w:Nat)(D:Int)(j:Nat):behindK f w D j++[plusF (latF f w (2*j+1)) (D+1)]=behindK f w D (j+1):=by
 unfold behindK
 rw[List.range_succ,List.map_append]
 rfl
set_option maxRecDepth 8000 in
set_option maxHeartbeats 8000000 in
theorem plrule_any(hg:g<w0.heap.size)(X1:SlF F w0 18 patF a1 n1 c1 x.whens)(X2:SlF F w0 18 patF a2 n2 c2 x.nots)(X3:SlF F w0 20 manF a3 n3 c3 x.manies)(X4:SlF F w0 3 lnkF a4 n4 c4 x.links)(hR:RulPl x):Calls Tryz.prog 12 #[.agg #[.string x.name,.slice a1 n1 c1,.slice a2 n2 c2,.slice a3 n3 c3,.slice a4 n4 c4,.string x.etype,.slice a6 n6 c6]] w0 (PlnP (planE x).1 (planE x).2 w0):=by
 have M:=Mem.begin hg ⟨0,0⟩
 have HG0:=hg
 have HX2:=Lib.hid X2
 have HX3:=Lib.hid X3
 have N1:=Lib.hid X1.len
 have N2:=Lib.hid X2.len
 have N3:=Lib.hid X3.len
 have hle1:=X1.le
 have hle2:=X2.le
 have hle3:=X3.le
 have hn1:1≤n1∧n1≤3:=by have:=X1.len;have:=hR.w1;have:=hR.w3;omega
 have hn2:n2≤2:=by have:=X2.len;have:=hR.n2;omega
 have hn3:n3≤2:=by have:=X3.len;have:=hR.m2;omega
 have HR:=Lib.hid hR
 have HNO:Hid (∀ (wx:World) (more:List Pat) (mo:Option Addr) (mn mc:Nat) (F3:Nat→Prop),g<wx.heap.size→Below w0.heap.size w0 wx→SlF F3 wx 18 patF mo mn mc more→more.length≤1→(mn=0→mo=none)→wholeF x more=none→Calls Tryz.prog 22 #[.agg #[.string x.name,.slice a1 n1 c1,.slice a2 n2 c2,.slice a3 n3 c3,.slice a4 n4 c4,.string x.etype,.slice a6 n6 c6],.slice mo mn mc] wx fun e w' => ∃ p,e= .returned (.tuple #[.pointer p,.bool false])∧Below wx.heap.size wx w'):=fun wx more mo mn mc F3 h1 hb h2 h3 h4 h5=>whole_no h1 (X1.below patF_firm hb) (X4.below lnkF_firm hb) h2 hR h3 h4 h5
 have HYES:Hid (∀ (wx:World) (more:List Pat) (mo:Option Addr) (mn mc:Nat) (F3:Nat→Prop) (G:Mx),g<wx.heap.size→Below w0.heap.size w0 wx→SlF F3 wx 18 patF mo mn mc more→more.length≤1→(mn=0→mo=none)→wholeF x more=some G→Calls Tryz.prog 22 #[.agg #[.string x.name,.slice a1 n1 c1,.slice a2 n2 c2,.slice a3 n3 c3,.slice a4 n4 c4,.string x.etype,.slice a6 n6 c6],.slice mo mn mc] wx fun e w' => ∃ zf,e= .returned (.tuple #[.pointer (some ⟨zf,0,none⟩),.bool true])∧Below wx.heap.size wx w' ∧FrmD zf (npts x more) G (from_ wx.heap.size) w'):=fun wx more mo mn mc F3 G h1 hb h2 h3 h4 h5=>whole_yes h1 (X1.below patF_firm hb) (X4.below lnkF_firm hb) h2 hR h3 h4 h5
 clear X1 X2 X3 X4 hR HG0
 cases hw:wholeF x []with
 |none=>
  have HP:Hid (planE x=(pln0,16)):=by show _=_;unfold planE;rw[hw]
  replace hw:=Lib.hid hw
  go_enter Tryz.func12,Tryz.ntmps12
  go_wp2_with (first|(go_at_call 22;have hq:=HNO.out _ [] none 0 0 (fun _=>True) (Nat.lt_of_lt_of_le M.lt M.but.size) M.new SlF.nil (by decide) (fun _=>rfl) hw.out;with_reducible refine hq.mono ?_;clear hq;rintro e w5 ⟨p5,rfl,hb5⟩;replace M:=M.below hb5;clear hb5)|(with_reducible (first|(refine wB M ?_;clear M;intro zb w1 M)|refine wq M ?_|(refine wS M ?_;clear M;intro w M)|(refine wV M ?_;clear M;intro z w M))))
  refine q_ret2 M Tryz.results12 (by rfl) ⟨_,Tryz.underlying28,rfl⟩ ?_
  rw[HP.out]
  exact⟨_,_,_,_,_,_,_,_,_,rfl,M.new,SlF.nil,SlF.nil,SlF.nil⟩
 |some f=>
  have HRG:Hid (Rg (npts x []) f):=whole_rg HR.out (by decide) hw
  have HPN:Hid (npts x []=2*n1):=by show _=_;rw[npts_nil,N1.out]
  have HP:Hid (planE x=(let D:=delayF x x.nots.length;if D=NOB then(pln0,15)else(⟨D,(List.range x.whens.length).map (fun i=>plusF (latF f x.whens.length (2*i+1)) (D+1)),x.nots.map (notW x D),x.manies.map (fun m=>m.pat.n+D+1)⟩,0))):=by show _=_;unfold planE;rw[hw]
  replace hw:=Lib.hid hw
  go_enter Tryz.func12,Tryz.ntmps12
  go_upto_region 4 with(first|(go_at_call 22;have hq:=HYES.out _ [] none 0 0 (fun _=>True) f (Nat.lt_of_lt_of_le M.lt M.but.size) M.new SlF.nil (by decide) (fun _=>rfl) hw.out;with_reducible refine hq.mono ?_;clear hq;rintro e w5 ⟨zf,rfl,hb5,hF5⟩;replace M:=M.fpush hb5 hF5;clear hb5 hF5)|(with_reducible (first|(refine wB M ?_;clear M;intro zb w1 M)|(refine wV M ?_;clear M;intro zr w M)|refine wq M ?_)))
  go_wp2_with (with_reducible (first|(refine wV M ?_;clear M;intro zp w M)|refine wq M ?_))
  replace M:=M.none_ (frmR_firm x) 69 1
  clear hw
  go_loopg [7,29] n2 (fun f' a i wr=> ∃ (j:Nat) (lv:Value) (D:Int),j+f' =n2∧i= .int .i64 j∧a=lv∧Mem (StaysB g w0) g w0 wr ⟨0,0⟩ (slc w0.heap.size 69 1 (frmR x) lv (x.nots.take j)::own zp [.int .i64 D,.slice none 0 0,.slice none 0 0,.slice none 0 0] 28::dat (FrmD zf (npts x []) f)::own zr [.int .i64 0,.slice none 0 0,.slice none 0 0,.slice none 0 0] 28::own zb [.string x.name,.slice a1 n1 c1,.slice a2 n2 c2,.slice a3 n3 c3,.slice a4 n4 c4,.string x.etype,.slice a6 n6 c6] 47::[])∧Hid (D=delayF x j∧0≤D∧D≤NOB))
  case atStart=>exact⟨0,_,0,by omega,rfl,rfl,M,Lib.hid ⟨rfl,by decide,by decide⟩⟩
  case round=>
   clear M
   obtain⟨j,lv,D,hj,rfl,rfl,M,HD⟩:=hrel
   by_cases hlt:j<n2
   ·have hil:j<x.nots.length:=by have:=N2.out;omega
    obtain⟨cp,op,rowp,hixp, -,hrrp,hwp⟩:=SlF.rowAt (P:=Tryz.prog) HX2.out patF_firm Tryz.underlying40 size_pat (i:=j) hil
    have HPF:=hrrp
    obtain⟨a5,q5,c5,ep, -⟩:=patF.open18 hrrp
    subst ep
    replace HPF:=Lib.hid HPF
    have HRP:=Lib.hid (fun wx hb=>(hwp wx hb).1)
    have HDN:=Lib.hid (delayF_next hil)
    have HRN:=Lib.hid (fun d (hd:0≤d∧d≤NOB)=>notD_rg HR.out hd x.nots[j])
    have HTK:Hid (x.nots.take j++[x.nots[j]]=x.nots.take (j+1)):=by show _=_;rw[List.take_add_one,List.getElem?_eq_getElem hil];rfl
    have HTL:Hid ((x.nots.take j).length≤100000):=by show _≤_;rw[List.length_take];omega
    clear hrrp hwp
    unfold pat18 at HRP HPF
    generalize x.nots[j]=p at HRP HDN HRN HTK HPF
    generalize x.nots.take j=tk at HTK HTL M
    cases hq:wholeF x [p]with
    |none=>
     have HWN:=Lib.hid hq
     have HDE:Hid (D=delayF x (j+1)∧0≤D∧D≤NOB):=⟨by rw[HDN.out,notD_none HWN.out];exact HD.out.1,HD.out.2⟩
     clear hq HDN HRN
     go_wp2_with (first|(go_at_call 22;go_loud (have ho:=M.own_ (Mem.of_get (i:=0) rfl);have hq:=HNO.out _ [p] _ 1 1 _ (Nat.lt_of_lt_of_le M.lt M.but.size) M.new (SlF.single ho rfl (patF_firm _ _ _ _ _ _ ⟨M.new.size,fun k _ hlt=>⟨trivial,M.new.block k hlt⟩⟩ HPF.out)) (Nat.le_refl _) (fun h=>by cases h) HWN.out;with_reducible refine hq.mono ?_;clear hq ho;rintro e w5 ⟨p5,rfl,hb5⟩;replace M:=M.below hb5;clear hb5))|(((with_reducible refine o_list rfl fun K hK=>?_);(refine q_app (R:=frmR x) (frmR_firm x) M 3 rfl p (frmR_none HWN.out) (by rfl) (by rfl) HTL.out ?_;clear M;intro ra2 rc2 w M;(try simp only[List.set_cons_zero,List.set_cons_succ]at M));refine hK _ _ ?_;clear hK K))|(with_reducible (first|(refine wV M ?_;clear M;intro zn w M)|refine wA (HRP.out _ M.new) ?_|(refine w_ (q_rows M ?_);clear M;intro qz w M)|refine wq M ?_|(refine wS M ?_;clear M;intro w M)|(refine wR M ?_;clear M;intro q w M))))
     go_roundg (n2 - (j+1))
     case measure=>omega
     case rel=>exact⟨j+1,_,D,by omega,by go_num,rfl,by rw[←HTK.out];exact M.drop.drop.drop,HDE⟩
    |some g1=>
     have HWN:=Lib.hid hq
     have HDS:Hid (max D (max (leastF g1 n1) 0)=notD x D p):=by show _=_;rw[N1.out];exact notD_some HD.out.2.1 HWN.out
     have HDE:Hid (max D (max (leastF g1 n1) 0)=delayF x (j+1)∧0≤max D (max (leastF g1 n1) 0)∧max D (max (leastF g1 n1) 0)≤NOB):=⟨by rw[HDS.out,HDN.out,←HD.out.1],by rw[HDS.out];exact HRN.out D HD.out.2⟩
     have HDL:Hid (∀ (wx:World) (z:Nat) (F' :Nat→Prop),g<wx.heap.size→FrmD z (npts x [p]) g1 F' wx→Calls Tryz.prog 23 #[.pointer (some ⟨z,0,none⟩),.int .i64 n1] wx fun e w' =>e= .returned (.int .i64 (max (leastF g1 n1) 0))∧Below wx.heap.size wx w'):=fun wx z F' h1 h2=>delay_D h1 h2 (by rw[npts_one];have:=N1.out;omega) (by omega)
     clear hq HDN HRN HDS
     generalize leastF g1 n1=v at HDE HDL
     go_upto_region 13 with(first|(go_at_call 22;have ho:=M.own_ (Mem.of_get (i:=0) rfl);have hq:=HYES.out _ [p] _ 1 1 _ g1 (Nat.lt_of_lt_of_le M.lt M.but.size) M.new (SlF.single ho rfl (patF_firm _ _ _ _ _ _ ⟨M.new.size,fun k _ hlt=>⟨trivial,M.new.block k hlt⟩⟩ HPF.out)) (Nat.le_refl _) (fun h=>by cases h) HWN.out;with_reducible refine hq.mono ?_;clear hq ho;rintro e w5 ⟨z5,rfl,hb5,hF5⟩;replace M:=M.fpush hb5 hF5;clear hb5 hF5)|(((with_reducible refine o_list rfl fun K hK=>?_);(refine q_app (R:=frmR x) (frmR_firm x) M 4 rfl p (frmR_some HWN.out (M.dat_ (i:=1) rfl)) (by rfl) (by rfl) HTL.out ?_;clear M;intro ra2 rc2 w M;(try simp only[List.set_cons_zero,List.set_cons_succ]at M));refine hK _ _ ?_;clear hK K))|(with_reducible (first|(refine wV M ?_;clear M;intro zn w M)|refine wA (HRP.out _ M.new) ?_|(refine w_ (q_rows M ?_);clear M;intro qz w M)|refine wq M ?_|(refine wS M ?_;clear M;intro w M)|(refine wR M ?_;clear M;intro q w M))))
     ((refine wp_region_first [0,1,2,3,4,5,8] [(true,0),(true,1),(true,2),(true,3),(true,4),(true,5),(false,6),(false,7),(true,8),(false,9)] (fun _ M=>M) M (by kernel_rfl) (by kernel_rfl) (fun _ _ _ _ _ h=>h) ?_);clear M;intro w M;(repeat(first|((with_reducible refine m_read rfl M.kept fun K hK=>?_);(first|(refine r_load (l' :=?_) ⟨_,M.kept⟩ (fun w M=>?_) ?_;rotate_left;focus((refine q_get M (by exact rfl) ?_);refine⟨rfl,?_⟩;with_reducible rfl))|(refine r_pure (v:=?_) rfl (fun w=>?_) ?_;rotate_left;focus(go_simp;try with_reducible rfl)));(try go_simp);with_reducible refine hK _ ?_;clear hK K)|((with_reducible refine m_last rfl rfl (by with_unfolding_all decide+kernel) fun K hK=>?_);(((refine q_set M (by rfl) (by rfl) ?_);clear M;intro w M;(try simp only[List.set_cons_zero,List.set_cons_succ]at M)));(try go_simp);with_reducible refine hK _ _ ?_;clear hK K)|((with_reducible refine m_step rfl rfl fun K hK=>?_);(first|((refine owp_of ?_;go_simp;(go_at_call 23;have hd:=M.dat_ (i:=1) rfl;have hq:=HDL.out _ _ _ (Nat.lt_of_lt_of_le M.lt M.but.size) hd;with_reducible refine hq.mono ?_;clear hq hd;rintro e w5 ⟨rfl,hb5⟩;replace M:=M.below hb5;clear hb5)))|(refine owp_of ?_;go_simp));(try go_simp);with_reducible refine hK _ _ M.kept ?_;clear hK K)));(with_reducible refine m_nil ?_))
     go_wp2_with (with_reducible (first|refine wq M ?_|(refine wS M ?_;clear M;intro w M)|(refine wV M ?_;clear M;intro z w M)|(refine wR M ?_;clear M;intro q w M)))
     go_roundg (n2 - (j+1))
     case measure=>omega
     case rel=>exact⟨j+1,_,_,by omega,by go_num,rfl,by rw[←HTK.out];exact M.drop.drop.drop.drop,HDE⟩
   ·have e:n2=j:=by omega
    have HDE:Hid (D=delayF x x.nots.length):=by show _=_;rw[←N2.out,e];exact HD.out.1
    have hD0:0≤D:=HD.out.2.1
    have hDN:D≤1152921504606846976:=HD.out.2.2
    rw[List.take_of_length_le (by have:=N2.out;omega)]at M
    obtain⟨an,cn,e1,M9⟩:=M.done (frmR_firm x) (by omega)
    clear M
    have M:=M9
    clear M9
    rw[←N2.out]at e1 M
    subst e1
    subst e
    clear HD HNO HYES HX2
    by_cases hD:D=1152921504606846976
    ·have hDq:(D==1152921504606846976)=true:=by rw[hD];rfl
     have HP2:Hid (planE x=(pln0,15)):=by show _=_;rw[HP.out,←HDE.out,if_pos (by unfold NOB;exact hD)]
     clear hD HP
     go_wp2_with (with_reducible (first|refine wq M ?_|(refine wS M ?_;clear M;intro w M)))
     refine q_ret2 M Tryz.results12 (by rfl) ⟨_,Tryz.underlying28,rfl⟩ ?_
     rw[HP2.out]
     exact⟨_,_,_,_,_,_,_,_,_,rfl,M.new,SlF.nil,SlF.nil,SlF.nil⟩
    ·have hDq:(D==1152921504606846976)=false:=by simpa using hD
     have HP2:Hid (planE x=(⟨D,behindK f n1 D n1,x.nots.map (notW x D),x.manies.map (fun m=>m.pat.n+D+1)⟩,0)):=by show _=_;rw[HP.out,←HDE.out,if_neg (by unfold NOB;exact hD),←N1.out];rfl
     have hD1:D<1152921504606846976:=by omega
     have hwr:IntKind.i64.wrap (D+1)=D+1:=IntWalk.i64_in _ (by omega)
     clear hD HP hDN
     go_wp2_with (with_reducible refine wq M ?_)
     replace M:=M.none_ (R:=intF) (plainF_firm _) 3 1
     go_loopg [66] n1 (fun f' i wr=> ∃ (q:Nat) (lv:Value),q+f' =n1∧i= .int .i64 q∧Mem (StaysB g w0) g w0 wr ⟨0,0⟩ (slc w0.heap.size 3 1 intF lv (behindK f n1 D q)::dat (fun F w=>SlF F w 1 (frmR x) an n2 cn x.nots)::own zp [.int .i64 D,lv,.slice none 0 0,.slice none 0 0] 28::dat (FrmD zf (npts x []) f)::own zr [.int .i64 0,.slice none 0 0,.slice none 0 0,.slice none 0 0] 28::own zb [.string x.name,.slice a1 n1 c1,.slice a2 n2 c2,.slice a3 n3 c3,.slice a4 n4 c4,.string x.etype,.slice a6 n6 c6] 47::[]))
     case atStart=>exact⟨0,_,by omega,rfl,M⟩
     case round=>
      clear M
      obtain⟨q,lv,hq,rfl,M⟩:=hrel
      by_cases hlq:q<n1
      ·have hq6:q≤1000:=by omega
       have HB:Hid (∀ (wx:World) (F' :Nat→Prop),g<wx.heap.size→FrmD zf (npts x []) f F' wx→Calls Tryz.prog 25 #[.pointer (some ⟨zf,0,none⟩),.int .i64 n1,.int .i64 (2*(q:Int)+1)] wx fun e w' =>e= .returned (.int .i64 (latF f n1 (2*q+1)))∧Below wx.heap.size wx w'):=fun wx F' h1 h2=>behind_D h1 h2 (p:=2*q+1) (by rw[HPN.out];omega) (by omega) (by rw[HPN.out];omega) (by omega)
       have HV:=latF_rg HRG.out (w:=n1) (p:=2*q+1) (by rw[HPN.out];omega) (by rw[HPN.out];omega) (by omega)
       have HL:Hid (∀ wx,Calls Tryz.prog 24 #[.int .i64 (latF f n1 (2*q+1)),.int .i64 (D+1)] wx fun e w' =>e= .returned (.int .i64 (plusF (latF f n1 (2*q+1)) (D+1)))∧Below wx.heap.size wx w'):=fun wx=>later_any _ _ HV ⟨by omega,by unfold NOB;omega⟩ wx
       have HN:=Lib.hid (behindK_next f n1 D q)
       have HLN:Hid ((behindK f n1 D q).length≤100000):=by show _≤_;unfold behindK;rw[List.length_map,List.length_range];omega
       clear HV
       generalize latF f n1 (2*q+1)=v at HB HL HN
       generalize plusF v (D+1)=u at HL HN
       generalize behindK f n1 D q=ws at HN HLN M
       go_upto_region 20 with(with_reducible (first|refine wq M ?_|(refine wS M ?_;clear M;intro w M)|(refine wV M ?_;clear M;intro z w M)|(refine wR M ?_;clear M;intro q w M)))
       ((refine wp_region_first [0,1,2,3,4,5,6,9,10,11,15] [(true,0),(true,1),(true,2),(true,3),(true,4),(true,5),(true,6),(true,9),(true,10),(true,11),(false,7),(false,8),(false,12),(false,13),(false,14),(true,15),(false,16)] (fun _ M=>M.drop) M (by kernel_rfl) (by kernel_rfl) (fun _ _ _ _ _ h=>h) ?_);clear M;intro w M;(repeat(first|((with_reducible refine m_read rfl M.kept fun K hK=>?_);(first|(refine r_load (l' :=?_) ⟨_,M.kept⟩ (fun w M=>?_) ?_;rotate_left;focus((refine q_get M (by exact rfl) ?_);refine⟨rfl,?_⟩;with_reducible rfl))|(refine r_pure (v:=?_) rfl (fun w=>?_) ?_;rotate_left;focus(go_simp;try with_reducible rfl)));(try go_simp);with_reducible refine hK _ ?_;clear hK K)|((with_reducible refine m_last rfl rfl (by with_unfolding_all decide+kernel) fun K hK=>?_);(((refine q_set M (by rfl) (by rfl) ?_);clear M;intro w M;(try simp only[List.set_cons_zero,List.set_cons_succ]at M)));(try go_simp);with_reducible refine hK _ _ ?_;clear hK K)|((with_reducible refine m_step rfl rfl fun K hK=>?_);(first|((refine owp_of ?_;go_simp;(go_at_call 26;with_reducible refine(pend_any q hq6 _).mono ?_;rintro e w5 ⟨rfl,hb5⟩;replace M:=M.below hb5;clear hb5)))|((refine owp_of ?_;go_simp;(go_at_call 25;have hd:=M.dat_ (i:=3) rfl;have hq:=HB.out _ _ (Nat.lt_of_lt_of_le M.lt M.but.size) hd;with_reducible refine hq.mono ?_;clear hq hd;rintro e w5 ⟨rfl,hb5⟩;replace M:=M.below hb5;clear hb5)))|((refine owp_of ?_;go_simp;(go_at_call 24;with_reducible refine(HL.out _).mono ?_;rintro e w5 ⟨rfl,hb5⟩;replace M:=M.below hb5;clear hb5)))|((refine q_rows M ?_;clear M;intro qz w M))|((refine q_app (R:=intF) (plainF_firm _) M 1 rfl u rfl (by rfl) (by rfl) HLN.out ?_;clear M;intro ra2 rc2 w M;(try simp only[List.set_cons_zero,List.set_cons_succ]at M))));(try go_simp);with_reducible refine hK _ _ M.kept ?_;clear hK K)));(with_reducible refine m_nil ?_))
       go_wp2_with (with_reducible (first|refine wq M ?_|(refine wS M ?_;clear M;intro w M)|(refine wV M ?_;clear M;intro z w M)|(refine wR M ?_;clear M;intro q w M)))
       go_roundg (n1 - (q+1))
       case measure=>omega
       case rel=>exact⟨q+1,_,by omega,by go_num,by rw[←HN.out];exact M.drop⟩
      ·have e:n1=q:=by omega
       subst e
       obtain⟨W,HW⟩: ∃ W,Hid (behindK f n1 D n1=W):=⟨_,Lib.hid rfl⟩
       rw[HW.out]at M
       obtain⟨b1,d1,e1,M9⟩:=M.done (plainF_firm _) (by omega)
       clear M
       have M:=M9
       clear M9
       subst e1
       go_wp2_with (with_reducible (first|refine wq M ?_|(refine wS M ?_;clear M;intro w M)|(refine wV M ?_;clear M;intro z w M)|(refine wR M ?_;clear M;intro q w M)))
       replace M:=M.none_ (R:=intF) (plainF_firm _) 3 1
       go_loopg [88] n2 (fun f' i wr=> ∃ (q:Nat) (lv:Value) (ns:List Int),q+f' =n2∧i= .int .i64 q∧Mem (StaysB g w0) g w0 wr ⟨0,0⟩ (slc w0.heap.size 3 1 intF lv ns::dat (fun F w=>SlF F w 1 intF b1 W.length d1 W)::dat (fun F w=>SlF F w 1 (frmR x) an n2 cn x.nots)::own zp [.int .i64 D,.slice b1 W.length d1,lv,.slice none 0 0] 28::dat (FrmD zf (npts x []) f)::own zr [.int .i64 0,.slice none 0 0,.slice none 0 0,.slice none 0 0] 28::own zb [.string x.name,.slice a1 n1 c1,.slice a2 n2 c2,.slice a3 n3 c3,.slice a4 n4 c4,.string x.etype,.slice a6 n6 c6] 47::[])∧Hid (ns=(x.nots.take q).map (notW x D)))
       case atStart=>exact⟨0,_,[],by omega,rfl,M,Lib.hid rfl⟩
       case round=>
        clear M
        obtain⟨q,lv,ns,hq,rfl,M,HNS⟩:=hrel
        by_cases hlq2:q<n2
        ·have hil:q<x.nots.length:=by have:=N2.out;omega
         obtain⟨cf,of_,rowf,hixf, -,hrf,hwf⟩:=SlF.rowAt (P:=Tryz.prog) (M.dat_ (i:=2) rfl) (frmR_firm x) Tryz.underlying72 size_frp (i:=q) hil
         have HNX:Hid (ns++[notW x D x.nots[q]]=(x.nots.take (q+1)).map (notW x D)):=by show _=_;rw[HNS.out,List.take_add_one,List.getElem?_eq_getElem hil,List.map_append];rfl
         have HLN:Hid (ns.length≤100000):=by show _≤_;rw[HNS.out,List.length_map,List.length_take];omega
         cases hq1:wholeF x [x.nots[q]]with
         |none=>
          obtain rfl:=hrf.nil hq1
          have HC:=Lib.hid (fun wx hb=>(hwf wx hb).1 0 _ rfl)
          rw[notW_none hq1]at HNX
          clear hrf hwf hq1 hil HNS
          go_wp2_with (first|(((with_reducible refine o_list rfl fun K hK=>?_);(refine q_app (R:=intF) (plainF_firm _) M 1 rfl 0 rfl (by rfl) (by rfl) HLN.out ?_;clear M;intro ra2 rc2 w M;(try simp only[List.set_cons_zero,List.set_cons_succ]at M));refine hK _ _ ?_;clear hK K))|(with_reducible (first|refine wC (HC.out _ (Below.refl _ _)) ?_|(refine w_ (q_rows M ?_);clear M;intro qz w M)|refine wq M ?_|(refine wS M ?_;clear M;intro w M))))
          go_roundg (n2 - (q+1))
          case measure=>omega
          case rel=>exact⟨q+1,_,_,by omega,by go_num,M.drop,HNX⟩
         |some g1=>
          obtain⟨z,rfl,hFD⟩:=hrf.at_ hq1
          have HC:=Lib.hid (fun wx hb=>(hwf wx hb).1 0 _ rfl)
          have HRG1:Rg (npts x [x.nots[q]]) g1:=whole_rg HR.out (Nat.le_refl _) hq1
          have HNP:npts x [x.nots[q]]=2*(n1+1):=by rw[npts_one,N1.out]
          have HB:Hid (∀ (wx:World) (F' :Nat→Prop),g<wx.heap.size→FrmD z (npts x [x.nots[q]]) g1 F' wx→Calls Tryz.prog 25 #[.pointer (some ⟨z,0,none⟩),.int .i64 n1,.int .i64 (2*(n1:Int)+1)] wx fun e w' =>e= .returned (.int .i64 (latF g1 n1 (2*n1+1)))∧Below wx.heap.size wx w'):=fun wx F' h1 h2=>behind_D h1 h2 (p:=2*n1+1) (by rw[HNP];omega) (by omega) (by rw[HNP];omega) (by omega)
          have HV:=latF_rg HRG1 (w:=n1) (p:=2*n1+1) (by rw[HNP];omega) (by rw[HNP];omega) (by omega)
          have HL:Hid (∀ wx,Calls Tryz.prog 24 #[.int .i64 (latF g1 n1 (2*n1+1)),.int .i64 (D+1)] wx fun e w' =>e= .returned (.int .i64 (plusF (latF g1 n1 (2*n1+1)) (D+1)))∧Below wx.heap.size wx w'):=fun wx=>later_any _ _ HV ⟨by omega,by unfold NOB;omega⟩ wx
          rw[notW_some hq1,←N1.out]at HNX
          replace M:=M.adopt frmD_firm hFD (fun k h _=>h)
          clear hrf hwf hq1 HNS HV HNP HRG1 hFD
          generalize latF g1 n1 (2*n1+1)=v at HB HL HNX
          generalize plusF v (D+1)=u at HL HNX
          generalize npts x [x.nots[q]]=np at HB M
          clear hil
          have hn16:n1≤1000:=by omega
          go_upto_region 27 with(with_reducible (refine wC (HC.out _ (Below.refl _ _)) ?_))
          ((refine wp_region_first [0,1,2,3,4,5,6,9,10,11,13] [(true,0),(true,1),(true,2),(true,3),(true,4),(true,5),(true,6),(true,9),(true,10),(true,11),(false,7),(false,8),(false,12),(true,13)] (fun _ M=>M) M (by kernel_rfl) (by kernel_rfl) (fun _ _ _ _ _ h=>h) ?_);clear M;intro w M;(repeat(first|((with_reducible refine m_read rfl M.kept fun K hK=>?_);(first|(refine r_load (l' :=?_) ⟨_,M.kept⟩ (fun w M=>?_) ?_;rotate_left;focus((refine q_get M (by exact rfl) ?_);refine⟨rfl,?_⟩;with_reducible rfl))|(refine r_pure (v:=?_) rfl (fun w=>?_) ?_;rotate_left;focus(go_simp;try with_reducible rfl)));(try go_simp);with_reducible refine hK _ ?_;clear hK K)|((with_reducible refine m_step rfl rfl fun K hK=>?_);(first|((refine owp_of ?_;go_simp;(go_at_call 26;with_reducible refine(pend_any n1 hn16 _).mono ?_;rintro e w5 ⟨rfl,hb5⟩;replace M:=M.below hb5;clear hb5)))|((refine owp_of ?_;go_simp;(go_at_call 25;have hd:=M.dat_ (i:=0) rfl;have hq:=HB.out _ _ (Nat.lt_of_lt_of_le M.lt M.but.size) hd;with_reducible refine hq.mono ?_;clear hq hd;rintro e w5 ⟨rfl,hb5⟩;replace M:=M.below hb5;clear hb5)))|((refine owp_of ?_;go_simp;(go_at_call 24;with_reducible refine(HL.out _).mono ?_;rintro e w5 ⟨rfl,hb5⟩;replace M:=M.below hb5;clear hb5))));(try go_simp);with_reducible refine hK _ _ M.kept ?_;clear hK K)));(with_reducible refine m_nil ?_))
          go_wp2_with (first|(((with_reducible refine o_list rfl fun K hK=>?_);(refine q_app (R:=intF) (plainF_firm _) M 2 rfl u rfl (by rfl) (by rfl) HLN.out ?_;clear M;intro ra2 rc2 w M;(try simp only[List.set_cons_zero,List.set_cons_succ]at M));refine hK _ _ ?_;clear hK K))|(with_reducible (first|(refine w_ (q_rows M ?_);clear M;intro qz w M)|refine wq M ?_|(refine wS M ?_;clear M;intro w M))))
          go_roundg (n2 - (q+1))
          case measure=>omega
          case rel=>exact⟨q+1,_,_,by omega,by go_num,M.drop.drop,HNX⟩
        ·have e:n2=q:=by omega
         subst e
         have HNE:Hid (ns=x.nots.map (notW x D)):=by show _=_;rw[HNS.out,List.take_of_length_le (by have:=N2.out;omega)]
         clear HNS
         obtain⟨b2,d2,e1,M9⟩:=M.done (plainF_firm _) (by omega)
         clear M
         have M:=M9
         clear M9
         subst e1
         go_wp2_with (with_reducible refine wq M ?_)
         replace M:=M.none_ (R:=intF) (plainF_firm _) 3 1
         go_loopg [117] n3 (fun f' i wr=> ∃ (q:Nat) (lv:Value) (ms:List Int),q+f' =n3∧i= .int .i64 q∧Mem (StaysB g w0) g w0 wr ⟨0,0⟩ (slc w0.heap.size 3 1 intF lv ms::dat (fun F w=>SlF F w 1 intF b2 ns.length d2 ns)::dat (fun F w=>SlF F w 1 intF b1 W.length d1 W)::dat (fun F w=>SlF F w 1 (frmR x) an n2 cn x.nots)::own zp [.int .i64 D,.slice b1 W.length d1,.slice b2 ns.length d2,lv] 28::dat (FrmD zf (npts x []) f)::own zr [.int .i64 0,.slice none 0 0,.slice none 0 0,.slice none 0 0] 28::own zb [.string x.name,.slice a1 n1 c1,.slice a2 n2 c2,.slice a3 n3 c3,.slice a4 n4 c4,.string x.etype,.slice a6 n6 c6] 47::[])∧Hid (ms=(x.manies.take q).map (fun m=>m.pat.n+D+1)))
         case atStart=>exact⟨0,_,[],by omega,rfl,M,Lib.hid rfl⟩
         case round=>
          clear M
          obtain⟨q,lv,ms,hq,rfl,M,HMS⟩:=hrel
          by_cases hlq3:q<n3
          ·have hil:q<x.manies.length:=by have:=N3.out;omega
           obtain⟨cp,op,rowp,hixp, -,hrrp,hwp⟩:=SlF.rowAt (P:=Tryz.prog) HX3.out manF_firm Tryz.underlying41 size_man (i:=q) hil
           obtain⟨a5,q5,c5,ep, -⟩:=manF.open20 hrrp
           subst ep
           have HRP:=Lib.hid (fun wx hb=>(hwp wx hb).1)
           have HMX:Hid (ms++[x.manies[q].pat.n+D+1]=(x.manies.take (q+1)).map (fun m=>m.pat.n+D+1)):=by show _=_;rw[HMS.out,List.take_add_one,List.getElem?_eq_getElem hil,List.map_append];rfl
           have HLN:Hid (ms.length≤100000):=by show _≤_;rw[HMS.out,List.length_map,List.length_take];omega
           have hmn:=HR.out.many _ (List.getElem_mem hil)
           clear hrrp hwp HMS
           unfold man20 pat18 at HRP
           generalize x.manies[q]=m at HRP HMX hmn
           have hwr2:IntKind.i64.wrap (m.pat.n+D)=m.pat.n+D:=IntWalk.i64_in _ (by omega)
           have hwr3:IntKind.i64.wrap (m.pat.n+D+1)=m.pat.n+D+1:=IntWalk.i64_in _ (by omega)
           clear hil
           go_wp2_with (first|(((with_reducible refine o_list rfl fun K hK=>?_);(refine q_app (R:=intF) (plainF_firm _) M 2 rfl (m.pat.n+D+1) rfl (by rfl) (by rfl) HLN.out ?_;clear M;intro ra2 rc2 w M;(try simp only[List.set_cons_zero,List.set_cons_succ]at M));refine hK _ _ ?_;clear hK K))|(with_reducible (first|(refine wV M ?_;clear M;intro zm w M)|refine wA (HRP.out _ M.new) ?_|(refine w_ (q_rows M ?_);clear M;intro qz w M)|refine wq M ?_|(refine wS M ?_;clear M;intro w M))))
           go_roundg (n3 - (q+1))
           case measure=>omega
           case rel=>exact⟨q+1,_,_,by omega,by go_num,M.drop.drop,HMX⟩
          ·have e:n3=q:=by omega
           subst e
           have HME:Hid (ms=x.manies.map (fun m=>m.pat.n+D+1)):=by show _=_;rw[HMS.out,List.take_of_length_le (by have:=N3.out;omega)]
           clear HMS
           obtain⟨b3,d3,e1,M9⟩:=M.done (plainF_firm _) (by omega)
           clear M
           have M:=M9
           clear M9
           subst e1
           go_wp2_with (with_reducible (first|refine wq M ?_|(refine wS M ?_;clear M;intro w M)))
           refine q_ret2 M Tryz.results12 (by rfl) ⟨_,Tryz.underlying28,rfl⟩ ?_
           rw[HP2.out,HW.out,←HNE.out,←HME.out]
           exact⟨_,_,_,_,_,_,_,_,_,rfl,M.new,SlF.same (M.dat_ (i:=2) rfl) (plainF_firm _) (Same.wide fun k hk _=>hk.1),SlF.same (M.dat_ (i:=1) rfl) (plainF_firm _) (Same.wide fun k hk _=>hk.1),SlF.same (M.dat_ (i:=0) rfl) (plainF_firm _) (Same.wide fun k hk _=>hk.1)⟩
end
end Go.Proofs.YtncmghnhfipklaaGreatDoor
