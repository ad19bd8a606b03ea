/-
  The walks of the reference's watch: links, the latest end. Printed by war.py.
-/
import Derived.Test.YtfahleafppfkaaaGreatDoorWf30
import Derived.Test.YtfahleafppfkaaaGreatDoorWf23
namespace Go.Proofs.YtfahleafppfkaaaGreatDoor
open Go.RowKit
set_option linter.unusedVariables false
set_option linter.unusedSimpArgs false
section
variable {S:Nat→Prop} {w0:World}
set_option maxRecDepth 8000 in
set_option maxHeartbeats 8000000 in
theorem linkHolds_any(hg: ∃ g,g<w0.heap.size)(k:Lnk)(so:Option Addr)(sn sc:Nat)(hO:SlF S w0 3 (plainF optC) so sn sc k.opts)(s t:Int×Int)(ho: ∀ o∈k.opts,optE o.rel o.lo o.hi=0)(hs:bothE s.1 s.2 t.1 t.2=0):
  Calls Tryz.prog 82 #[.agg #[.string k.left,.slice so sn sc,.string k.right],.agg #[.int .i64 s.1,.int .i64 s.2],.agg #[.int .i64 t.1,.int .i64 t.2]] w0 fun e w' =>e= .returned (.bool (lnkB k s t))∧Below w0.heap.size w0 w' :=by
 obtain⟨g,hg⟩:=hg
 have M:=Mem.begin hg ⟨0,0⟩
 have NL:=Lib.hid hO.len
 have hle:=hO.le
 have HO:=Lib.hid hO
 have HF:Hid (∀ o∈k.opts,∀ wx,Below w0.heap.size w0 wx→Calls Tryz.prog 124 #[.agg #[.int .i64 o.rel,.int .i64 o.lo,.int .i64 o.hi],.agg #[.int .i64 s.1,.int .i64 s.2],.agg #[.int .i64 t.1,.int .i64 t.2]] wx fun e w' =>e= .returned (.bool (fitB o.rel o.lo o.hi s.1 s.2 t.1 t.2))∧Below wx.heap.size wx w'):=fun o h wx hb=>fitting_any _ _ _ _ _ _ _ wx (ho o h) hs
 have HT:Hid (∀ j (hj:j<k.opts.length),fitB k.opts[j].rel k.opts[j].lo k.opts[j].hi s.1 s.2 t.1 t.2=true→lnkB k s t=true):=fun j hj h=>List.any_eq_true.2 ⟨_,List.getElem_mem hj,h⟩
 have HE:Hid (NoB k.opts (fun o=>fitB o.rel o.lo o.hi s.1 s.2 t.1 t.2) k.opts.length→lnkB k s t=false):=fun h=>by
  refine List.any_eq_false.2 fun o ho=>?_
  obtain⟨i,hi,rfl⟩:=List.mem_iff_getElem.1 ho
  simp[h i hi hi]
 clear hO hg ho hs
 generalize lnkB k s t=T at HT HE ⊢
 go_enter Tryz.func82,Tryz.ntmps82
 go_wp2_with (with_reducible (first|(refine wB (L:=[]) M ?_;clear M;intro za w1 M)|(refine wB (L:=[_]) M ?_;clear M;intro zs w1 M)|(refine wB (L:=[_,_]) M ?_;clear M;intro zt w1 M)))
 go_loopg [7] sn (fun f i wr=> ∃ (j:Nat),j+f=sn∧i= .int .i64 j∧Mem (StaysB g w0) g w0 wr ⟨0,0⟩ (own zt [.int .i64 t.1,.int .i64 t.2] 62::own zs [.int .i64 s.1,.int .i64 s.2] 62::own za [.string k.left,.slice so sn sc,.string k.right] 134::[])∧Hid (NoB k.opts (fun o=>fitB o.rel o.lo o.hi s.1 s.2 t.1 t.2) j))
 case atStart=>exact⟨0,by omega,rfl,M,noB_zero _ _⟩
 case round=>
  clear M
  obtain⟨j,hj,rfl,M,HB⟩:=hrel
  by_cases hlt:j<sn
  ·have hkl:j<k.opts.length:=by have:=NL.out;omega
   obtain⟨ca,oa,rowa,hixa, -,hrra,hwa⟩:=SlF.rowAt (P:=Tryz.prog) HO.out (plainF_firm _) Tryz.underlying132 szOpt (i:=j) hkl
   have ea:rowa=optC k.opts[j]:=hrra
   subst ea
   have HR:=Lib.hid (fun wx hb=>(hwa wx hb).1)
   have HF2:=Lib.hid (HF.out _ (List.getElem_mem hkl))
   have HT2:=Lib.hid (HT.out j hkl)
   have HB2:Hid (fitB k.opts[j].rel k.opts[j].lo k.opts[j].hi s.1 s.2 t.1 t.2=false→NoB k.opts (fun o=>fitB o.rel o.lo o.hi s.1 s.2 t.1 t.2) (j+1)):=fun h=>noB_succ HB.out hkl h
   clear hwa HB hrra
   unfold optC at HR
   generalize fitB k.opts[j].rel k.opts[j].lo k.opts[j].hi s.1 s.2 t.1 t.2=fb at HF2 HT2 HB2
   generalize k.opts[j]=o at HR HF2
   clear hkl
   go_wp2_with (with_reducible refine wq M ?_)
   ((refine wp_region_calm M (by kernel_rfl) (by kernel_rfl) ?_);(repeat((with_reducible refine c_list rfl fun K hK=>?_);(first|(refine c_load (l' :=?_) ⟨_,M⟩ (fun w M=>?_) ?_;rotate_left;focus((first|(refine q_at (HR.out _ M.new) (by rfl) ?_)|refine q_get M (by exact rfl) ?_|refine q_all M (by rfl) ?_);refine⟨rfl,?_⟩;with_reducible rfl))|(refine c_call (n:=124) (args:=?_) (v:=?_) (fun w=>?_) (fun w M=>?_) ?_;rotate_left 2;(focus(go_simp;try with_reducible rfl));(focus(with_reducible refine(HF2.out _ M.new).mono ?_;rintro e w5 ⟨rfl,hb5⟩;refine⟨?_,M.below hb5⟩;with_reducible rfl)))|(refine c_pure (v:=?_) (fun w=>?_) ?_;rotate_left;focus(go_simp;try with_reducible rfl)));(try go_simp);with_reducible refine hK _ ?_;clear hK K));(refine wpQuiet_nil ?_);clear M;intro w M)
   cases fb with
   |true=>
    have HV:=Lib.hid (HT2.out rfl)
    clear HT2 HB2
    go_wp2_with (with_reducible (first|refine wq M ?_|(refine wS M ?_;clear M;intro w M)|(refine wV M ?_;clear M;intro z w M)|(refine wR M ?_;clear M;intro q w M)))
    go_ret
    rw[HV.out]
    exact⟨rfl,M.new⟩
   |false=>
    have HV:=Lib.hid (HB2.out rfl)
    clear HT2 HB2
    go_wp2_with (with_reducible (first|refine wq M ?_|(refine wS M ?_;clear M;intro w M)|(refine wV M ?_;clear M;intro z w M)|(refine wR M ?_;clear M;intro q w M)))
    go_roundg (sn - (j+1))
    case measure=>omega
    case rel=>exact⟨j+1,by omega,by go_num,M,HV⟩
  ·have hje:j=k.opts.length:=by have:=NL.out;omega
   have HV:=Lib.hid (HE.out (hje▸HB.out))
   clear HB
   go_wp2_with (with_reducible refine wq M ?_)
   go_ret
   rw[HV.out]
   exact⟨rfl,M.new⟩
set_option maxRecDepth 8000 in
set_option maxHeartbeats 8000000 in
theorem latestEnd_any(hg: ∃ g,g<w0.heap.size)(a:Option Addr)(n c:Nat)(l:List Eve)(hX:SlF S w0 5 eveF a n c l):
  Calls Tryz.prog 52 #[.slice a n c] w0 fun e w' =>e= .returned (.int .i64 (lastE l))∧Below w0.heap.size w0 w' :=by
 obtain⟨g,hg⟩:=hg
 have M:=Mem.begin hg ⟨0,0⟩
 have NL:Hid (n=l.length):=hX.len
 have hle:=hX.le
 have HX:=Lib.hid hX
 clear hX hg
 go_enter Tryz.func52,Tryz.ntmps52
 go_wp2_with (with_reducible (first|refine wq M ?_|(refine wS M ?_;clear M;intro w M)|(refine wV M ?_;clear M;intro z w M)|(refine wR M ?_;clear M;intro q w M)))
 go_loopg [3,4] n (fun f m i wr=> ∃ (j:Nat),j+f=n∧m= .int .i64 (lastE (l.take j))∧i= .int .i64 j∧Mem (StaysB g w0) g w0 wr ⟨0,0⟩ [])
 case atStart=>exact⟨0,by omega,rfl,rfl,M⟩
 case round=>
  clear M
  obtain⟨j,hj,rfl,rfl,M⟩:=hrel
  by_cases hlt:j<n
  ·have hal:j<l.length:=by have:=NL.out;omega
   obtain⟨cx,ox,rowx,hixx, -,hrrx,hwx⟩:=SlF.rowAt (P:=Tryz.prog) HX.out eveF_firm Tryz.underlying26 size_eve (i:=j) hal
   obtain⟨px,qx,rx,ex, -⟩:=hrrx
   subst ex
   have HS:Hid (∀ wx,Below w0.heap.size w0 wx→wx.cell? ⟨cx,ox+2+1,none⟩=some (.int .i64 l[j].e.stop)):=fun wx hb=>(hwx wx hb).1 3 _ rfl
   have HLS:Hid (lastE (l.take (j+1))=_):=lastE_snoc hal
   clear hwx
   generalize l[j].e.stop=st at HS HLS
   generalize lastE (l.take j)=ln at HLS ⊢
   clear hal
   by_cases hc:ln<st
   ·have hcb:decide (ln<st)=true:=by simpa using hc
    have HV:Hid (lastE (l.take (j+1))=st):=by show _=_;rw[HLS.out,if_pos hc]
    clear HLS hc
    go_wp2_with (with_reducible refine wC (HS.out _ M.new) ?_)
    go_roundg (n - (j+1))
    case measure=>omega
    case rel=>exact⟨j+1,by omega,by rw[HV.out],by go_num,M⟩
   ·have hcb:decide (ln<st)=false:=by simpa using hc
    have HV:Hid (lastE (l.take (j+1))=ln):=by show _=_;rw[HLS.out,if_neg hc]
    clear HLS hc
    go_wp2_with (with_reducible refine wC (HS.out _ M.new) ?_)
    go_roundg (n - (j+1))
    case measure=>omega
    case rel=>exact⟨j+1,by omega,by rw[HV.out],by go_num,M⟩
  ·have hje:l.take j=l:=List.take_of_length_le (by have:=NL.out;omega)
   rw[hje]
   clear hje
   go_wp2_with (with_reducible (first|refine wq M ?_|(refine wS M ?_;clear M;intro w M)|(refine wV M ?_;clear M;intro z w M)|(refine wR M ?_;clear M;intro q w M)))
   go_ret
   exact⟨rfl,M.new⟩
set_option maxRecDepth 8000 in
set_option maxHeartbeats 8000000 in
theorem blocks_any{v:RA}{b:Bok}{R:Rul}{tuple:List Eve}{x:Eve}{b2 b3 b4 b6:Option Addr}{m2 e2 m3 e3 m4 e4 m6 e6:Nat}(V:Rv w0 v b.types R.whens tuple x)(Y4:SlF (fun _=>True) w0 3 lnkF b4 m4 e4 R.links)(P:Pat){so:Option Addr}{sn sc:Nat}(hS:SlF S w0 14 CondF so sn sc P.wher.subs)
  (hz:ruleE b.types R=0)(hn:hasP R.whens P.var=false)(T:Tup b R tuple)(hx:eventE b.types x.e x.vals=0)(hG:sameS (evT b.types x).name P.type=true→HoldGood b.types R.whens tuple x 8 P.wher)(hfw:R.whens.length≤3):
  Calls Tryz.prog 51 #[.slice v.a1 v.n1 v.c1,.agg (rulC R (.slice v.b1 v.m1 v.e1) (.slice b2 m2 e2) (.slice b3 m3 e3) (.slice b4 m4 e4) (.slice b6 m6 e6)).toArray,.agg (patC P so sn sc).toArray,.slice v.a3 v.n3 v.c3,.agg #[.int .i64 x.e.number,.int .i64 x.e.type,.int .i64 x.e.start,.int .i64 x.e.stop,.slice v.p v.q v.r]] w0 fun e w' =>e= .returned (.bool (blockB b.types R tuple P x))∧Below w0.heap.size w0 w' :=by
 obtain⟨g,hg⟩:=V.pos
 have M:=Mem.begin hg ⟨0,0⟩
 have hgx:=evGood_of hx
 have HTK:Hid (∀ wx,Below w0.heap.size w0 wx→Calls Tryz.prog 53 #[.slice v.a1 v.n1 v.c1,.agg (rulC R (.slice v.b1 v.m1 v.e1) (.slice b2 m2 e2) (.slice b3 m3 e3) (.slice b4 m4 e4) (.slice b6 m6 e6)).toArray,.agg (patC P so sn sc).toArray,.agg #[.int .i64 x.e.number,.int .i64 x.e.type,.int .i64 x.e.start,.int .i64 x.e.stop,.slice v.p v.q v.r],.slice v.a3 v.n3 v.c3] wx fun e w' =>e= .returned (.bool (takenB b.types R.whens tuple x P))∧Below wx.heap.size wx w'):=fun wx hb=>taken_any (V.below hb) (by rw[T.len];exact Nat.le_refl _) P hgx.lo hgx.hi (hS.below condF_firm hb) hG
 have HPN:Hid (∀ wx s,Below w0.heap.size w0 wx→patI R.whens s<R.whens.length→Calls Tryz.prog 81 #[.slice v.b1 v.m1 v.e1,.string s] wx fun e w' =>e= .returned (.int .i64 (patI R.whens s:Nat))∧Below wx.heap.size wx w'):=fun wx s hb hs=>by
  have h1:=patternNamed_any (Nat.lt_of_lt_of_le hg hb.size) (V.whens.below patF_firm hb) s
  rw[show placeV (patI R.whens s) R.whens.length=(patI R.whens s:Nat)by unfold placeV;rw[if_pos hs]]at h1
  exact h1
 have HLN:Hid (∀ wx (k:Lnk) (so:Option Addr) (sn sc:Nat) (s t:Int×Int),Below w0.heap.size w0 wx→linkE R k=0→SlF (fun _=>True) w0 3 (plainF optC) so sn sc k.opts→spanE s.1 s.2=0→spanE t.1 t.2=0→Calls Tryz.prog 82 #[.agg #[.string k.left,.slice so sn sc,.string k.right],.agg #[.int .i64 s.1,.int .i64 s.2],.agg #[.int .i64 t.1,.int .i64 t.2]] wx fun e w' =>e= .returned (.bool (lnkB k s t))∧Below wx.heap.size wx w'):=fun wx k so sn sc s t hb hk hO h1 h2=>
  linkHolds_any ⟨g,Nat.lt_of_lt_of_le hg hb.size⟩ k so sn sc (hO.below (plainF_firm _) hb) s t (link_opts hk) (bothE_of h1 h2)
 have HX3:=Lib.hid V.knows
 have hle3:=V.knows.le
 have N3:Hid (v.n3=tuple.length):=V.knows.len
 have HY4:=Lib.hid Y4
 have hle4:=Y4.le
 have N4:Hid (m4=R.links.length):=Y4.len
 have HLZ:Hid (∀ j (hj:j<R.links.length),linkE R R.links[j]=0):=fun j hj=>by have:=(rule_parts hz).2.2 j hj;simpa[List.getD,List.getElem?_eq_getElem hj]using this
 have HNV:=Lib.hid hn
 have HTL:=Lib.hid T.len
 have HTS:=Lib.hid T.span
 have HXS:=Lib.hid (span_of hx)
 have hbb:blockB b.types R tuple P x=(!inT tuple x&&(takenB b.types R.whens tuple x P&&linkedG R tuple P.var x)):=rfl
 have HI1:Hid (∀ j (hj:j<tuple.length),(tuple[j].e.number==x.e.number)=true→inT tuple x=true):=fun j hj h=>List.any_eq_true.2 ⟨_,List.getElem_mem hj,h⟩
 have HI2:Hid (NoB tuple (fun y=>y.e.number==x.e.number) tuple.length→inT tuple x=false):=fun h=>by
  refine List.any_eq_false.2 fun y hy=>?_
  obtain⟨i,hi,rfl⟩:=List.mem_iff_getElem.1 hy
  simp[h i hi hi]
 have HL1:Hid (∀ j (hj:j<R.links.length),linkG R.whens tuple P.var x R.links[j]=false→linkedG R tuple P.var x=false):=fun j hj h=>List.all_eq_false.2 ⟨_,List.getElem_mem hj,by simp[h]⟩
 have HL2:Hid (NoB R.links (fun k=>linkG R.whens tuple P.var x k==false) R.links.length→linkedG R tuple P.var x=true):=fun h=>by
  refine List.all_eq_true.2 fun k hk=>?_
  obtain⟨i,hi,rfl⟩:=List.mem_iff_getElem.1 hk
  simpa using h i hi hi
 rw[hbb]
 clear hbb V Y4 hS hz hn T hx hG hgx
 generalize inT tuple x=iT at HI1 HI2 ⊢
 generalize takenB b.types R.whens tuple x P=tB at HTK ⊢
 generalize linkedG R tuple P.var x=lB at HL1 HL2 ⊢
 unfold patC cndC opdC rulC at HTK
 unfold patC cndC opdC rulC
 simp only[List.cons_append,List.nil_append]at HTK ⊢
 replace hg:=Lib.hid hg
 go_enter Tryz.func51,Tryz.ntmps51
 go_wp2_with (with_reducible (first|(refine wB (L:=[]) M ?_;clear M;intro za w1 M)|(refine wB (L:=[_]) M ?_;clear M;intro zp w1 M)|(refine wB (L:=[_,_]) M ?_;clear M;intro zx w1 M)))
 go_loopg [11] v.n3 (fun f i wr=> ∃ (j:Nat),j+f=v.n3∧i= .int .i64 j∧Mem (StaysB g w0) g w0 wr ⟨0,0⟩ (own zx [.int .i64 x.e.number,.int .i64 x.e.type,.int .i64 x.e.start,.int .i64 x.e.stop,.slice v.p v.q v.r] 65::own zp [.string P.var,.string P.type,.int .i64 P.wher.kind,.slice so sn sc,.int .i64 P.wher.left.kind,.int .i64 P.wher.left.vkind,.int .i64 P.wher.left.vint,.string P.wher.left.vtext,.string P.wher.left.var,.string P.wher.left.field,.int .i64 P.wher.right.kind,.int .i64 P.wher.right.vkind,.int .i64 P.wher.right.vint,.string P.wher.right.vtext,.string P.wher.right.var,.string P.wher.right.field,.int .i64 P.window,.int .i64 P.n] 78::own za [.string R.name,.slice v.b1 v.m1 v.e1,.slice b2 m2 e2,.slice b3 m3 e3,.slice b4 m4 e4,.string R.etype,.slice b6 m6 e6] 60::[])∧Hid (NoB tuple (fun y=>y.e.number==x.e.number) j))
 case atStart=>exact⟨0,by omega,rfl,M,noB_zero _ _⟩
 case round=>
  clear M
  obtain⟨j,hj,rfl,M,HB⟩:=hrel
  by_cases hlt:j<v.n3
  ·have hkl:j<tuple.length:=by have:=N3.out;omega
   obtain⟨cx,ox,rowx,hixx, -,hrrx,hwx⟩:=SlF.rowAt (P:=Tryz.prog) HX3.out eveF_firm Tryz.underlying26 size_eve (i:=j) hkl
   obtain⟨px,qx,rx,ex, -⟩:=hrrx
   subst ex
   have HNB:Hid (∀ wx,Below w0.heap.size w0 wx→wx.cell? ⟨cx,ox,none⟩=some (.int .i64 tuple[j].e.number)):=fun wx hb=>(hwx wx hb).1 0 _ rfl
   have HT1:=Lib.hid (HI1.out j hkl)
   have HT2:Hid ((tuple[j].e.number==x.e.number)=false→NoB tuple (fun y=>y.e.number==x.e.number) (j+1)):=fun h=>noB_succ HB.out hkl h
   clear hwx HB
   generalize tuple[j].e.number=nb at HNB HT1 HT2
   clear hkl
   obtain⟨u,hu⟩: ∃ u,(nb==x.e.number)=u:=⟨_,rfl⟩
   rw[hu]at HT1 HT2
   cases u with
   |true=>
    have HV:=Lib.hid (HT1.out rfl)
    clear HT1 HT2
    go_wp2_with (with_reducible (first|refine wq M ?_|(refine wS M ?_;clear M;intro w M)|(refine wV M ?_;clear M;intro z w M)|(refine wR M ?_;clear M;intro q w M)))
    ((refine wp_region_calm M (by kernel_rfl) (by kernel_rfl) ?_);(repeat((with_reducible refine c_list rfl fun K hK=>?_);(first|(refine c_load (l' :=?_) ⟨_,M⟩ (fun w M=>?_) ?_;rotate_left;focus((first|(refine q_cellat (HNB.out _ M.new) ?_)|refine q_get M (by exact rfl) ?_);refine⟨rfl,?_⟩;with_reducible rfl))|(refine c_pure (v:=?_) (fun w=>?_) ?_;rotate_left;focus(go_simp;try with_reducible rfl)));(try go_simp);with_reducible refine hK _ ?_;clear hK K));(refine wpQuiet_nil ?_);clear M;intro w M)
    go_wp2_with (with_reducible (first|refine wq M ?_|(refine wS M ?_;clear M;intro w M)|(refine wV M ?_;clear M;intro z w M)|(refine wR M ?_;clear M;intro q w M)))
    go_ret
    rw[HV.out]
    exact⟨rfl,M.new⟩
   |false=>
    have HV:=Lib.hid (HT2.out rfl)
    clear HT1 HT2
    go_wp2_with (with_reducible (first|refine wq M ?_|(refine wS M ?_;clear M;intro w M)|(refine wV M ?_;clear M;intro z w M)|(refine wR M ?_;clear M;intro q w M)))
    ((refine wp_region_calm M (by kernel_rfl) (by kernel_rfl) ?_);(repeat((with_reducible refine c_list rfl fun K hK=>?_);(first|(refine c_load (l' :=?_) ⟨_,M⟩ (fun w M=>?_) ?_;rotate_left;focus((first|(refine q_cellat (HNB.out _ M.new) ?_)|refine q_get M (by exact rfl) ?_);refine⟨rfl,?_⟩;with_reducible rfl))|(refine c_pure (v:=?_) (fun w=>?_) ?_;rotate_left;focus(go_simp;try with_reducible rfl)));(try go_simp);with_reducible refine hK _ ?_;clear hK K));(refine wpQuiet_nil ?_);clear M;intro w M)
    go_wp2_with (with_reducible (first|refine wq M ?_|(refine wS M ?_;clear M;intro w M)|(refine wV M ?_;clear M;intro z w M)|(refine wR M ?_;clear M;intro q w M)))
    go_roundg (v.n3 - (j+1))
    case measure=>omega
    case rel=>exact⟨j+1,by omega,by go_num,M,HV⟩
  ·have hje:j=tuple.length:=by have:=N3.out;omega
   obtain rfl:iT=false:=HI2.out (hje▸HB.out)
   clear HB hje HI1 HI2
   cases tB with
   |false=>
    go_wp2_with (first|(with_reducible refine wq M ?_)|(go_at_call 53;with_reducible refine(HTK.out _ M.new).mono ?_;rintro e w5 ⟨rfl,hb5⟩;replace M:=M.below hb5;clear hb5))
    go_ret
    exact⟨rfl,M.new⟩
   |true=>
    go_wp2_with (first|(with_reducible refine wq M ?_)|(go_at_call 53;with_reducible refine(HTK.out _ M.new).mono ?_;rintro e w5 ⟨rfl,hb5⟩;replace M:=M.below hb5;clear hb5))
    go_loopg [12] m4 (fun f i wr=> ∃ (j:Nat),j+f=m4∧i= .int .i64 j∧Mem (StaysB g w0) g w0 wr ⟨0,0⟩ (own zx [.int .i64 x.e.number,.int .i64 x.e.type,.int .i64 x.e.start,.int .i64 x.e.stop,.slice v.p v.q v.r] 65::own zp [.string P.var,.string P.type,.int .i64 P.wher.kind,.slice so sn sc,.int .i64 P.wher.left.kind,.int .i64 P.wher.left.vkind,.int .i64 P.wher.left.vint,.string P.wher.left.vtext,.string P.wher.left.var,.string P.wher.left.field,.int .i64 P.wher.right.kind,.int .i64 P.wher.right.vkind,.int .i64 P.wher.right.vint,.string P.wher.right.vtext,.string P.wher.right.var,.string P.wher.right.field,.int .i64 P.window,.int .i64 P.n] 78::own za [.string R.name,.slice v.b1 v.m1 v.e1,.slice b2 m2 e2,.slice b3 m3 e3,.slice b4 m4 e4,.string R.etype,.slice b6 m6 e6] 60::[])∧Hid (NoB R.links (fun k=>linkG R.whens tuple P.var x k==false) j))
    case atStart=>exact⟨0,by omega,rfl,M,noB_zero _ _⟩
    case round=>
     clear M
     obtain⟨j,hj,rfl,M,HB⟩:=hrel
     by_cases hlt:j<m4
     ·have hkl:j<R.links.length:=by have:=N4.out;omega
      obtain⟨ca,oa,rowa,hixa, -,hrra,hwa⟩:=SlF.rowAt (P:=Tryz.prog) HY4.out lnkF_firm Tryz.underlying55 size_lnk (i:=j) hkl
      obtain⟨ko,kn,kc,ea,uo⟩:=hrra
      subst ea
      have HK:=Lib.hid (fun wx hb=>(hwa wx hb).1)
      have HT1:=Lib.hid (HL1.out j hkl)
      have HT2:Hid (linkG R.whens tuple P.var x R.links[j]=true→NoB R.links (fun k=>linkG R.whens tuple P.var x k==false) (j+1)):=fun h=>noB_succ HB.out hkl (by simp[h])
      have HZK:=Lib.hid (HLZ.out j hkl)
      have HUO:=Lib.hid uo
      clear hwa uo HB
      generalize R.links[j]=k at HK HT1 HT2 HZK HUO
      clear hkl
      unfold lnkC at HK
      obtain⟨hs1,hs2⟩:=link_sides HZK.out HNV.out
      have hlg:linkG R.whens tuple P.var x k=((!sameS k.left P.var&&!sameS k.right P.var)||lnkB k (spanN R.whens tuple P.var x k.left) (spanN R.whens tuple P.var x k.right)):=rfl
      rw[hlg]at HT1 HT2
      clear hlg
      have hl1:(k.left.toList==P.var.toList)=sameS k.left P.var:=rfl
      have hl2:(k.right.toList==P.var.toList)=sameS k.right P.var:=rfl
      by_cases h1:sameS k.left P.var=true
      ·obtain⟨h2,h3⟩:=hs1 h1
       have hit:patI R.whens k.right<tuple.length:=by rw[HTL.out];exact h3
       have hno:spanN R.whens tuple P.var x k.right=spanX tuple[patI R.whens k.right]:=by unfold spanN;rw[if_neg (by rw[h2];simp),if_pos h3];simp[List.getD,List.getElem?_eq_getElem hit]
       have hnm:spanN R.whens tuple P.var x k.left=spanX x:=by unfold spanN;rw[if_pos h1]
       rw[h1]at hl1 HT1 HT2
       rw[h2]at hl2 HT1 HT2
       rw[hno,hnm]at HT1 HT2
       simp only[Bool.not_true,Bool.not_false,Bool.false_and,Bool.and_false,Bool.false_or]at HT1 HT2
       obtain⟨ck,ok,rowk,hixk, -,hrrk,hwk⟩:=SlF.rowAt (P:=Tryz.prog) HX3.out eveF_firm Tryz.underlying26 size_eve (i:=patI R.whens k.right) hit
       obtain⟨p1,q1,r1,ek, -⟩:=hrrk
       subst ek
       have HSK:Hid (∀ wx,Below w0.heap.size w0 wx→wx.rangeAt ck (ok+2) [.int .i64 tuple[patI R.whens k.right].e.start,.int .i64 tuple[patI R.whens k.right].e.stop]):=fun wx hb=>range_sub (hwk wx hb).1 2 _ rfl
       have HPK:=Lib.hid (fun wx hb=>HPN.out wx k.right hb h3)
       have HLK:=Lib.hid (fun wx hb=>HLN.out wx k ko kn kc (spanX x) (spanX tuple[patI R.whens k.right]) hb HZK.out HUO.out HXS.out (HTS.out _ hit))
       have hlb:patI R.whens k.right≤3:=by omega
       clear hwk hs1 hs2 hno hnm HZK HUO h3
       generalize lnkB k (spanX x) (spanX tuple[patI R.whens k.right])=lb at HT1 HT2 HLK
       unfold spanX at HLK
       generalize tuple[patI R.whens k.right]=y at HSK HLK
       clear hit
       generalize patI R.whens k.right=J at *
       cases lb with
       |true=>
        have HV:=Lib.hid (HT2.out rfl)
        clear HT1 HT2
        go_wp2_with (with_reducible (first|(refine wV M ?_;clear M;intro zk w M)|refine wq M ?_|(refine wS M ?_;clear M;intro w M)|refine wA (HK.out _ M.new) ?_))
        ((refine wp_region_calm M (by kernel_rfl) (by kernel_rfl) ?_);(repeat(first|((with_reducible refine c_list rfl fun K hK=>?_);(first|(refine c_load (l' :=?_) ⟨_,M⟩ (fun w M=>?_) ?_;rotate_left;focus((refine q_get M (by exact rfl) ?_);refine⟨rfl,?_⟩;with_reducible rfl))|(refine c_pure (v:=?_) (fun w=>?_) ?_;rotate_left;focus(go_simp;try with_reducible rfl)));(try go_simp);with_reducible refine hK _ ?_;clear hK K)|((with_reducible refine c_listg fun K hK=>?_);(first|(refine c_load (l' :=?_) ⟨_,M⟩ (fun w M=>?_) ?_;rotate_left;focus((first|(refine q_at (HSK.out _ M.new) (by rfl) ?_)|refine q_get M (by exact rfl) ?_|refine q_all M (by rfl) ?_|refine q_prt M (by rfl) ?_);refine⟨rfl,?_⟩;with_reducible rfl))|(refine c_call (n:=81) (args:=?_) (v:=?_) (fun w=>?_) (fun w M=>?_) ?_;rotate_left 2;(focus(go_simp;try with_reducible rfl));(focus(with_reducible refine(HPK.out _ M.new).mono ?_;rintro e w5 ⟨rfl,hb5⟩;refine⟨?_,M.below hb5⟩;with_reducible rfl)))|(refine c_call (n:=82) (args:=?_) (v:=?_) (fun w=>?_) (fun w M=>?_) ?_;rotate_left 2;(focus(go_simp;try with_reducible rfl));(focus(with_reducible refine(HLK.out _ M.new).mono ?_;rintro e w5 ⟨rfl,hb5⟩;refine⟨?_,M.below hb5⟩;with_reducible rfl)))|(refine c_pure (v:=?_) (fun w=>?_) ?_;rotate_left;focus(go_simp;try with_reducible rfl)));(try go_simp);with_reducible refine hK _ ?_;clear hK K)));(refine wpQuiet_nil ?_);clear M;intro w M)
        go_wp2_with (with_reducible (first|refine wq M ?_|(refine wS M ?_;clear M;intro w M)|(refine wV M ?_;clear M;intro z w M)|(refine wR M ?_;clear M;intro q w M)))
        ((refine wp_region_calm M (by kernel_rfl) (by kernel_rfl) ?_);(repeat(first|((with_reducible refine c_list rfl fun K hK=>?_);(first|(refine c_load (l' :=?_) ⟨_,M⟩ (fun w M=>?_) ?_;rotate_left;focus((refine q_get M (by exact rfl) ?_);refine⟨rfl,?_⟩;with_reducible rfl))|(refine c_pure (v:=?_) (fun w=>?_) ?_;rotate_left;focus(go_simp;try with_reducible rfl)));(try go_simp);with_reducible refine hK _ ?_;clear hK K)|(with_reducible refine c_skipT ?_)));(refine wpQuiet_nil ?_);clear M;intro w M)
        go_wp2_with (with_reducible (first|refine wq M ?_|(refine wS M ?_;clear M;intro w M)|(refine wV M ?_;clear M;intro z w M)|(refine wR M ?_;clear M;intro q w M)))
        go_roundg (m4 - (j+1))
        case measure=>omega
        case rel=>exact⟨j+1,by omega,by go_num,M.drop,HV⟩
       |false=>
        have HV:=Lib.hid (HT1.out rfl)
        clear HT1 HT2
        go_wp2_with (with_reducible (first|(refine wV M ?_;clear M;intro zk w M)|refine wq M ?_|(refine wS M ?_;clear M;intro w M)|refine wA (HK.out _ M.new) ?_))
        ((refine wp_region_calm M (by kernel_rfl) (by kernel_rfl) ?_);(repeat(first|((with_reducible refine c_list rfl fun K hK=>?_);(first|(refine c_load (l' :=?_) ⟨_,M⟩ (fun w M=>?_) ?_;rotate_left;focus((refine q_get M (by exact rfl) ?_);refine⟨rfl,?_⟩;with_reducible rfl))|(refine c_pure (v:=?_) (fun w=>?_) ?_;rotate_left;focus(go_simp;try with_reducible rfl)));(try go_simp);with_reducible refine hK _ ?_;clear hK K)|((with_reducible refine c_listg fun K hK=>?_);(first|(refine c_load (l' :=?_) ⟨_,M⟩ (fun w M=>?_) ?_;rotate_left;focus((first|(refine q_at (HSK.out _ M.new) (by rfl) ?_)|refine q_get M (by exact rfl) ?_|refine q_all M (by rfl) ?_|refine q_prt M (by rfl) ?_);refine⟨rfl,?_⟩;with_reducible rfl))|(refine c_call (n:=81) (args:=?_) (v:=?_) (fun w=>?_) (fun w M=>?_) ?_;rotate_left 2;(focus(go_simp;try with_reducible rfl));(focus(with_reducible refine(HPK.out _ M.new).mono ?_;rintro e w5 ⟨rfl,hb5⟩;refine⟨?_,M.below hb5⟩;with_reducible rfl)))|(refine c_call (n:=82) (args:=?_) (v:=?_) (fun w=>?_) (fun w M=>?_) ?_;rotate_left 2;(focus(go_simp;try with_reducible rfl));(focus(with_reducible refine(HLK.out _ M.new).mono ?_;rintro e w5 ⟨rfl,hb5⟩;refine⟨?_,M.below hb5⟩;with_reducible rfl)))|(refine c_pure (v:=?_) (fun w=>?_) ?_;rotate_left;focus(go_simp;try with_reducible rfl)));(try go_simp);with_reducible refine hK _ ?_;clear hK K)));(refine wpQuiet_nil ?_);clear M;intro w M)
        go_wp2_with (with_reducible (first|refine wq M ?_|(refine wS M ?_;clear M;intro w M)|(refine wV M ?_;clear M;intro z w M)|(refine wR M ?_;clear M;intro q w M)))
        go_ret
        rw[HV.out]
        exact⟨rfl,M.new⟩
      ·have h1' :sameS k.left P.var=false:=by simpa using h1
       by_cases h2:sameS k.right P.var=true
       ·obtain⟨-,h3⟩:=hs2 h2
        have hit:patI R.whens k.left<tuple.length:=by rw[HTL.out];exact h3
        have hno:spanN R.whens tuple P.var x k.left=spanX tuple[patI R.whens k.left]:=by unfold spanN;rw[if_neg (by rw[h1'];simp),if_pos h3];simp[List.getD,List.getElem?_eq_getElem hit]
        have hnm:spanN R.whens tuple P.var x k.right=spanX x:=by unfold spanN;rw[if_pos h2]
        rw[h2]at hl2 HT1 HT2
        rw[h1']at hl1 HT1 HT2
        rw[hno,hnm]at HT1 HT2
        simp only[Bool.not_true,Bool.not_false,Bool.false_and,Bool.and_false,Bool.false_or]at HT1 HT2
        obtain⟨ck,ok,rowk,hixk, -,hrrk,hwk⟩:=SlF.rowAt (P:=Tryz.prog) HX3.out eveF_firm Tryz.underlying26 size_eve (i:=patI R.whens k.left) hit
        obtain⟨p1,q1,r1,ek, -⟩:=hrrk
        subst ek
        have HSK:Hid (∀ wx,Below w0.heap.size w0 wx→wx.rangeAt ck (ok+2) [.int .i64 tuple[patI R.whens k.left].e.start,.int .i64 tuple[patI R.whens k.left].e.stop]):=fun wx hb=>range_sub (hwk wx hb).1 2 _ rfl
        have HPK:=Lib.hid (fun wx hb=>HPN.out wx k.left hb h3)
        have HLK:=Lib.hid (fun wx hb=>HLN.out wx k ko kn kc (spanX tuple[patI R.whens k.left]) (spanX x) hb HZK.out HUO.out (HTS.out _ hit) HXS.out)
        have hlb:patI R.whens k.left≤3:=by omega
        clear hwk hs1 hs2 hno hnm HZK HUO h3
        generalize lnkB k (spanX tuple[patI R.whens k.left]) (spanX x)=lb at HT1 HT2 HLK
        unfold spanX at HLK
        generalize tuple[patI R.whens k.left]=y at HSK HLK
        clear hit
        generalize patI R.whens k.left=J at *
        cases lb with
        |true=>
         have HV:=Lib.hid (HT2.out rfl)
         clear HT1 HT2
         go_wp2_with (with_reducible (first|(refine wV M ?_;clear M;intro zk w M)|refine wq M ?_|(refine wS M ?_;clear M;intro w M)|refine wA (HK.out _ M.new) ?_))
         ((refine wp_region_calm M (by kernel_rfl) (by kernel_rfl) ?_);(repeat(first|((with_reducible refine c_list rfl fun K hK=>?_);(first|(refine c_load (l' :=?_) ⟨_,M⟩ (fun w M=>?_) ?_;rotate_left;focus((refine q_get M (by exact rfl) ?_);refine⟨rfl,?_⟩;with_reducible rfl))|(refine c_pure (v:=?_) (fun w=>?_) ?_;rotate_left;focus(go_simp;try with_reducible rfl)));(try go_simp);with_reducible refine hK _ ?_;clear hK K)|(with_reducible refine c_skipT ?_)));(refine wpQuiet_nil ?_);clear M;intro w M)
         go_wp2_with (with_reducible (first|refine wq M ?_|(refine wS M ?_;clear M;intro w M)|(refine wV M ?_;clear M;intro z w M)|(refine wR M ?_;clear M;intro q w M)))
         ((refine wp_region_calm M (by kernel_rfl) (by kernel_rfl) ?_);(repeat(first|((with_reducible refine c_list rfl fun K hK=>?_);(first|(refine c_load (l' :=?_) ⟨_,M⟩ (fun w M=>?_) ?_;rotate_left;focus((refine q_get M (by exact rfl) ?_);refine⟨rfl,?_⟩;with_reducible rfl))|(refine c_pure (v:=?_) (fun w=>?_) ?_;rotate_left;focus(go_simp;try with_reducible rfl)));(try go_simp);with_reducible refine hK _ ?_;clear hK K)|((with_reducible refine c_listg fun K hK=>?_);(first|(refine c_load (l' :=?_) ⟨_,M⟩ (fun w M=>?_) ?_;rotate_left;focus((first|(refine q_at (HSK.out _ M.new) (by rfl) ?_)|refine q_get M (by exact rfl) ?_|refine q_all M (by rfl) ?_|refine q_prt M (by rfl) ?_);refine⟨rfl,?_⟩;with_reducible rfl))|(refine c_call (n:=81) (args:=?_) (v:=?_) (fun w=>?_) (fun w M=>?_) ?_;rotate_left 2;(focus(go_simp;try with_reducible rfl));(focus(with_reducible refine(HPK.out _ M.new).mono ?_;rintro e w5 ⟨rfl,hb5⟩;refine⟨?_,M.below hb5⟩;with_reducible rfl)))|(refine c_call (n:=82) (args:=?_) (v:=?_) (fun w=>?_) (fun w M=>?_) ?_;rotate_left 2;(focus(go_simp;try with_reducible rfl));(focus(with_reducible refine(HLK.out _ M.new).mono ?_;rintro e w5 ⟨rfl,hb5⟩;refine⟨?_,M.below hb5⟩;with_reducible rfl)))|(refine c_pure (v:=?_) (fun w=>?_) ?_;rotate_left;focus(go_simp;try with_reducible rfl)));(try go_simp);with_reducible refine hK _ ?_;clear hK K)));(refine wpQuiet_nil ?_);clear M;intro w M)
         go_wp2_with (with_reducible (first|refine wq M ?_|(refine wS M ?_;clear M;intro w M)|(refine wV M ?_;clear M;intro z w M)|(refine wR M ?_;clear M;intro q w M)))
         go_roundg (m4 - (j+1))
         case measure=>omega
         case rel=>exact⟨j+1,by omega,by go_num,M.drop,HV⟩
        |false=>
         have HV:=Lib.hid (HT1.out rfl)
         clear HT1 HT2
         go_wp2_with (with_reducible (first|(refine wV M ?_;clear M;intro zk w M)|refine wq M ?_|(refine wS M ?_;clear M;intro w M)|refine wA (HK.out _ M.new) ?_))
         ((refine wp_region_calm M (by kernel_rfl) (by kernel_rfl) ?_);(repeat(first|((with_reducible refine c_list rfl fun K hK=>?_);(first|(refine c_load (l' :=?_) ⟨_,M⟩ (fun w M=>?_) ?_;rotate_left;focus((refine q_get M (by exact rfl) ?_);refine⟨rfl,?_⟩;with_reducible rfl))|(refine c_pure (v:=?_) (fun w=>?_) ?_;rotate_left;focus(go_simp;try with_reducible rfl)));(try go_simp);with_reducible refine hK _ ?_;clear hK K)|(with_reducible refine c_skipT ?_)));(refine wpQuiet_nil ?_);clear M;intro w M)
         go_wp2_with (with_reducible (first|refine wq M ?_|(refine wS M ?_;clear M;intro w M)|(refine wV M ?_;clear M;intro z w M)|(refine wR M ?_;clear M;intro q w M)))
         ((refine wp_region_calm M (by kernel_rfl) (by kernel_rfl) ?_);(repeat(first|((with_reducible refine c_list rfl fun K hK=>?_);(first|(refine c_load (l' :=?_) ⟨_,M⟩ (fun w M=>?_) ?_;rotate_left;focus((refine q_get M (by exact rfl) ?_);refine⟨rfl,?_⟩;with_reducible rfl))|(refine c_pure (v:=?_) (fun w=>?_) ?_;rotate_left;focus(go_simp;try with_reducible rfl)));(try go_simp);with_reducible refine hK _ ?_;clear hK K)|((with_reducible refine c_listg fun K hK=>?_);(first|(refine c_load (l' :=?_) ⟨_,M⟩ (fun w M=>?_) ?_;rotate_left;focus((first|(refine q_at (HSK.out _ M.new) (by rfl) ?_)|refine q_get M (by exact rfl) ?_|refine q_all M (by rfl) ?_|refine q_prt M (by rfl) ?_);refine⟨rfl,?_⟩;with_reducible rfl))|(refine c_call (n:=81) (args:=?_) (v:=?_) (fun w=>?_) (fun w M=>?_) ?_;rotate_left 2;(focus(go_simp;try with_reducible rfl));(focus(with_reducible refine(HPK.out _ M.new).mono ?_;rintro e w5 ⟨rfl,hb5⟩;refine⟨?_,M.below hb5⟩;with_reducible rfl)))|(refine c_call (n:=82) (args:=?_) (v:=?_) (fun w=>?_) (fun w M=>?_) ?_;rotate_left 2;(focus(go_simp;try with_reducible rfl));(focus(with_reducible refine(HLK.out _ M.new).mono ?_;rintro e w5 ⟨rfl,hb5⟩;refine⟨?_,M.below hb5⟩;with_reducible rfl)))|(refine c_pure (v:=?_) (fun w=>?_) ?_;rotate_left;focus(go_simp;try with_reducible rfl)));(try go_simp);with_reducible refine hK _ ?_;clear hK K)));(refine wpQuiet_nil ?_);clear M;intro w M)
         go_wp2_with (with_reducible (first|refine wq M ?_|(refine wS M ?_;clear M;intro w M)|(refine wV M ?_;clear M;intro z w M)|(refine wR M ?_;clear M;intro q w M)))
         go_ret
         rw[HV.out]
         exact⟨rfl,M.new⟩
       ·have h2' :sameS k.right P.var=false:=by simpa using h2
        rw[h1']at hl1 HT2
        rw[h2']at hl2 HT2
        have HV:=Lib.hid (HT2.out rfl)
        clear HT1 HT2 HZK HUO hs1 hs2 h1 h1' h2 h2'
        go_wp2_with (with_reducible (first|(refine wV M ?_;clear M;intro zk w M)|refine wq M ?_|(refine wS M ?_;clear M;intro w M)|refine wA (HK.out _ M.new) ?_))
        ((refine wp_region_calm M (by kernel_rfl) (by kernel_rfl) ?_);(repeat(first|((with_reducible refine c_list rfl fun K hK=>?_);(first|(refine c_load (l' :=?_) ⟨_,M⟩ (fun w M=>?_) ?_;rotate_left;focus((refine q_get M (by exact rfl) ?_);refine⟨rfl,?_⟩;with_reducible rfl))|(refine c_pure (v:=?_) (fun w=>?_) ?_;rotate_left;focus(go_simp;try with_reducible rfl)));(try go_simp);with_reducible refine hK _ ?_;clear hK K)|(with_reducible refine c_skipT ?_)));(refine wpQuiet_nil ?_);clear M;intro w M)
        go_wp2_with (with_reducible (first|refine wq M ?_|(refine wS M ?_;clear M;intro w M)|(refine wV M ?_;clear M;intro z w M)|(refine wR M ?_;clear M;intro q w M)))
        ((refine wp_region_calm M (by kernel_rfl) (by kernel_rfl) ?_);(repeat(first|((with_reducible refine c_list rfl fun K hK=>?_);(first|(refine c_load (l' :=?_) ⟨_,M⟩ (fun w M=>?_) ?_;rotate_left;focus((refine q_get M (by exact rfl) ?_);refine⟨rfl,?_⟩;with_reducible rfl))|(refine c_pure (v:=?_) (fun w=>?_) ?_;rotate_left;focus(go_simp;try with_reducible rfl)));(try go_simp);with_reducible refine hK _ ?_;clear hK K)|(with_reducible refine c_skipT ?_)));(refine wpQuiet_nil ?_);clear M;intro w M)
        go_wp2_with (with_reducible (first|refine wq M ?_|(refine wS M ?_;clear M;intro w M)|(refine wV M ?_;clear M;intro z w M)|(refine wR M ?_;clear M;intro q w M)))
        go_roundg (m4 - (j+1))
        case measure=>omega
        case rel=>exact⟨j+1,by omega,by go_num,M.drop,HV⟩
     ·have hje:j=R.links.length:=by have:=N4.out;omega
      obtain rfl:lB=true:=HL2.out (hje▸HB.out)
      clear HB
      go_wp2_with (with_reducible refine wq M ?_)
      go_ret
      exact⟨rfl,M.new⟩
end
end Go.Proofs.YtfahleafppfkaaaGreatDoor
