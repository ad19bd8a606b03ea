/-
  Are these the events of a rule's whens? (the reference). Printed by jtg.py.
-/
import Derived.Test.YtfahleafppfkaaaGreatDoorJuD
import Derived.Test.YtfahleafppfkaaaGreatDoorJuA
namespace Go.Proofs.YtfahleafppfkaaaGreatDoor
open Go.RowKit
set_option linter.unusedVariables false
set_option linter.unusedSimpArgs false
structure Tg (w:World) (v:GA) (b1:Option Addr) (m1 e1:Nat) (b4:Option Addr) (m4 e4:Nat) (b:Bok) (R:Rul) (l all:List Eve):Prop where
 pos: ∃ g,g<w.heap.size
 types:SlF (fun _=>True) w 2 typF v.a1 v.n1 v.c1 b.types
 whens:SlF (fun _=>True) w 18 patF b1 m1 e1 R.whens
 links:SlF (fun _=>True) w 3 lnkF b4 m4 e4 R.links
 evs:SlF (fun _=>True) w 5 eveF v.a3 v.n3 v.c3 l
 alls:SlF (fun _=>True) w 5 eveF v.a4 v.n4 v.c4 all
 okT: ∀ t∈b.types,typOk t
 book:bookE b=0
 is: ∃ r:Nat,b.rules[r]?=some R
 len:l.length=R.whens.length
 mis:AllZ (misE b.types R.whens l) l.length
 evE: ∀ x∈l,eventE b.types x.e x.vals=0
 fewA:all.length≤120
section
variable {w0:World} {v:GA} {b1 b2 b3 b4 b6:Option Addr} {m1 e1 m2 e2 m3 e3 m4 e4 m6 e6:Nat} {b:Bok} {R:Rul} {l all:List Eve}
theorem SlF.takeN{α:Type}{F:Nat→Prop}{w:World}{k:Nat}{Q:(Nat→Prop)→World→List Value→α→Prop}{ao:Option Addr}{n cap i:Nat}{xs:List α}(h:SlF F w k Q ao n cap xs)(hi:i≤xs.length):SlF F w k Q ao i cap (xs.take i):=by
 obtain⟨h1,h2,h3,h5,h4⟩:=h
 have hl:(xs.take i).length=i:=by rw[List.length_take];omega
 refine⟨hl.symm,by omega,h3,h5,fun j hj=>?_⟩
 obtain⟨c,off,row,e,f,lt,ra,r⟩:=h4 j (by rw[hl]at hj;omega)
 exact⟨c,off,row,e,f,lt,ra,by rw[List.getElem_take];exact r⟩
theorem Tg.below{w' :World}(h:Tg w0 v b1 m1 e1 b4 m4 e4 b R l all)(hb:Below w0.heap.size w0 w'):Tg w' v b1 m1 e1 b4 m4 e4 b R l all:=
 {h with
  pos:=h.pos.elim fun g hg=>⟨g,Nat.lt_of_lt_of_le hg hb.size⟩
  types:=h.types.below typF_firm hb
  whens:=h.whens.below patF_firm hb
  links:=h.links.below lnkF_firm hb
  evs:=h.evs.below eveF_firm hb
  alls:=h.alls.below eveF_firm hb}
theorem Tg.zero(h:Tg w0 v b1 m1 e1 b4 m4 e4 b R l all):ruleE b.types R=0:=by
 obtain⟨r,hr⟩:=h.is
 obtain⟨h1,h2⟩:=List.getElem?_eq_some_iff.1 hr
 have:=rule_zero h.book h1
 rwa[h2]at this
theorem Tg.taken(h:Tg w0 v b1 m1 e1 b4 m4 e4 b R l all){i:Nat}(hi:i<l.length)(hw:i<R.whens.length){so:Option Addr}{sn sc:Nat}(hS:SlF (fun _=>True) w0 14 CondF so sn sc R.whens[i].wher.subs){px:Option Addr}{qx rx:Nat}(hv:SlF (fun _=>True) w0 3 (plainF valC) px qx rx l[i].vals):
  Calls Tryz.prog 53 #[.slice v.a1 v.n1 v.c1,.agg (rulC R (.slice b1 m1 e1) (.slice b2 m2 e2) (.slice b3 m3 e3) (.slice b4 m4 e4) (.slice b6 m6 e6)).toArray,.agg (patC R.whens[i] so sn sc).toArray,.agg #[.int .i64 l[i].e.number,.int .i64 l[i].e.type,.int .i64 l[i].e.start,.int .i64 l[i].e.stop,.slice px qx rx],.slice v.a3 i v.c3] w0 fun e w' =>e= .returned (.bool (takenB b.types R.whens (l.take i) l[i] R.whens[i]))∧Below w0.heap.size w0 w' :=by
 have hg:=evGood_of (h.evE _ (List.getElem_mem hi))
 have hl:(l.take i).length=i:=by rw[List.length_take];omega
 refine taken_any (v:=⟨v.a1,v.n1,v.c1,b1,m1,e1,px,qx,rx,v.a3,i,v.c3⟩) ⟨h.pos,h.types,h.whens,hv,h.evs.takeN (Nat.le_of_lt hi),h.okT⟩ (by rw[hl];omega) _ hg.lo hg.hi hS (fun hn=>?_)
 obtain⟨r,hr⟩:=h.is
 obtain⟨h1,h2⟩:=List.getElem?_eq_some_iff.1 hr
 have:=takes_good (part:=0) (k:=i) (x:=l[i]) (known:=l.take i) h.book h1 ⟨by omega,by omega⟩ (by rw[h2];exact hw) hg (fun j hj=>evGood_of (h.evE _ (List.mem_of_mem_take (List.getElem_mem hj)))) (by rw[hl,if_pos rfl]) (fun j hj=>by
  have hj2:j<i:=by rw[hl]at hj;exact hj
  have:=h.mis j (by omega)
  rw[h2]
  unfold misE at this ⊢
  rw[getD_take hj2]
  exact this) (by rw[h2];show sameS _ (R.whens.getD i pat0).type=true;rw[show R.whens.getD i pat0=R.whens[i]by simp[List.getD,List.getElem?_eq_getElem hw]];exact hn)
 rw[h2]at this
 rw[show(partL R 0).getD i pat0=R.whens[i]by show R.whens.getD i pat0=_;simp[List.getD,List.getElem?_eq_getElem hw]]at this
 exact this
theorem oneB_at{ts:List Typ}{wh:List Pat}{i:Nat}(hi:i<l.length)(hw:i<wh.length):oneB ts wh l i=(!inT (l.take i) l[i]&&takenB ts wh (l.take i) l[i] wh[i]):=by
 unfold oneB
 simp[List.getD,List.getElem?_eq_getElem hi,List.getElem?_eq_getElem hw]
theorem tog_one{i:Nat}(hi:i<l.length)(h:oneB b.types R.whens l i=false):togB b.types R all l=false:=by
 unfold togB
 rw[show(List.range l.length).all (oneB b.types R.whens l)=false from List.all_eq_false.2 ⟨i,List.mem_range.2 hi,by simp[h]⟩]
 rfl
theorem tog_link{k:Lnk}(hk:k∈R.links)(h:oldL R.whens l k=false):togB b.types R all l=false:=by
 unfold togB
 rw[show R.links.all (oldL R.whens l)=false from List.all_eq_false.2 ⟨k,hk,by simp[h]⟩]
 simp
theorem tog_win{i:Nat}(hw:i<R.whens.length)(hi:i<l.length)(h:winB (lastE l) (numE l) all R.whens[i] l[i]=false):togB b.types R all l=false:=by
 unfold togB windowsB
 rw[show(R.whens.zip l).all (fun z=>winB (lastE l) (numE l) all z.1 z.2)=false from List.all_eq_false.2 ⟨(R.whens[i],l[i]),by
  have hz:i<(R.whens.zip l).length:=by rw[List.length_zip];omega
  have:=List.getElem_mem hz
  rwa[List.getElem_zip]at this,by simp[h]⟩]
 simp
theorem tog_all(h1: ∀ i,i<l.length→oneB b.types R.whens l i=true)(h2:NoB R.links (fun k=>!oldL R.whens l k) R.links.length)(h3: ∀ i (hw:i<R.whens.length) (hi:i<l.length),winB (lastE l) (numE l) all R.whens[i] l[i]=true):togB b.types R all l=true:=by
 unfold togB windowsB
 rw[Bool.and_eq_true,Bool.and_eq_true]
 refine⟨List.all_eq_true.2 fun i hi=>h1 i (List.mem_range.1 hi),List.all_eq_true.2 fun k hk=>?_,List.all_eq_true.2 fun z hz=>?_⟩
 ·obtain⟨i,hi,rfl⟩:=List.mem_iff_getElem.1 hk
  simpa using h2 i hi hi
 ·obtain⟨i,hi,rfl⟩:=List.mem_iff_getElem.1 hz
  have hi' :=hi
  rw[List.length_zip]at hi'
  rw[List.getElem_zip]
  exact h3 i (by omega) (by omega)
set_option maxRecDepth 8000 in
set_option maxHeartbeats 16000000 in
theorem together_any(G:Tg w0 v b1 m1 e1 b4 m4 e4 b R l all):
  Calls Tryz.prog 40 #[.slice v.a1 v.n1 v.c1,.agg (rulC R (.slice b1 m1 e1) (.slice b2 m2 e2) (.slice b3 m3 e3) (.slice b4 m4 e4) (.slice b6 m6 e6)).toArray,.slice v.a3 v.n3 v.c3,.slice v.a4 v.n4 v.c4] w0 fun e w' =>e= .returned (.bool (togB b.types R all l))∧Below w0.heap.size w0 w' :=by
 obtain⟨g,hg⟩:=G.pos
 have M:=Mem.begin hg ⟨0,0⟩
 have HG:=Lib.hid G
 have HX:=Lib.hid G.evs
 have HW:=Lib.hid G.whens
 have HA:=Lib.hid G.alls
 have HY:=Lib.hid G.links
 have hle:=G.evs.le
 have hleA:=G.alls.le
 have hleW:=G.whens.le
 have hleY:=G.links.le
 have NX:Hid (v.n3=l.length):=G.evs.len
 have NW:Hid (m1=R.whens.length):=G.whens.len
 have NA:Hid (v.n4=all.length):=G.alls.len
 have NY:Hid (m4=R.links.length):=G.links.len
 have HLW:Hid (l.length=R.whens.length):=G.len
 have hw3:v.n3≤3:=by have:=G.evs.len;have:=G.len;have:=(rule_few G.zero).1;omega
 have hn4:v.n4≤120:=by have:=G.alls.len;have:=G.fewA;omega
 have HLE:Hid (∀ wx,Below w0.heap.size w0 wx→Calls Tryz.prog 52 #[.slice v.a3 v.n3 v.c3] wx fun e w' =>e= .returned (.int .i64 (lastE l))∧Below wx.heap.size wx w'):=fun wx hb=>latestEnd_any (G.below hb).pos v.a3 v.n3 v.c3 l (G.below hb).evs
 have HPN:Hid (∀ wx s,Below w0.heap.size w0 wx→Calls Tryz.prog 81 #[.slice b1 m1 e1,.string s] wx fun e w' =>e= .returned (.int .i64 (placeV (patI R.whens s) R.whens.length))∧Below wx.heap.size wx w'):=fun wx s hb=>by
  obtain⟨g2,hg2⟩:=(G.below hb).pos
  exact patternNamed_any hg2 (G.below hb).whens s
 have HLZ:Hid (∀ j (hj:j<R.links.length),linkE R R.links[j]=0):=fun j hj=>by have:=(rule_parts G.zero).2.2 j hj;simpa[List.getD,List.getElem?_eq_getElem hj]using this
 have HSP:Hid (∀ x∈l,spanE x.e.start x.e.stop=0):=fun x hx=>span_of (G.evE _ hx)
 unfold rulC
 have H1:Hid (∀ i (hi:i<l.length),oneB b.types R.whens l i=false→togB b.types R all l=false):=fun i hi h=>tog_one hi h
 have H2:Hid (∀ k∈R.links,oldL R.whens l k=false→togB b.types R all l=false):=fun k hk h=>tog_link hk h
 have H3:Hid (∀ i (hw:i<R.whens.length) (hi:i<l.length),winB (lastE l) (numE l) all R.whens[i] l[i]=false→togB b.types R all l=false):=fun i hw hi h=>tog_win hw hi h
 have H4:Hid ((∀ i,i<l.length→oneB b.types R.whens l i=true)→NoB R.links (fun k=>!oldL R.whens l k) R.links.length→(∀ i (hw:i<R.whens.length) (hi:i<l.length),winB (lastE l) (numE l) all R.whens[i] l[i]=true)→togB b.types R all l=true):=fun h1 h2 h3=>tog_all h1 h2 h3
 generalize togB b.types R all l=T at H1 H2 H3 H4 ⊢
 clear G hg
 go_enter Tryz.func40,Tryz.ntmps40
 go_wp2_with (first|(with_reducible (first|(refine wB (L:=[]) M ?_;clear M;intro za w1 M)|refine wq M ?_|(refine wS M ?_;clear M;intro w M)|(refine wV M ?_;clear M;intro z w M)|(refine wR M ?_;clear M;intro q w M))))
 go_loopg [9,10] v.n3 (fun f t i wr=> ∃ (j:Nat),j+f=v.n3∧t= .int .i64 (numE (l.take j))∧i= .int .i64 j∧Mem (StaysB g w0) g w0 wr ⟨0,0⟩ (own za [.string R.name,.slice b1 m1 e1,.slice b2 m2 e2,.slice b3 m3 e3,.slice b4 m4 e4,.string R.etype,.slice b6 m6 e6] 60::[])∧Hid (∀ i,i<j→oneB b.types R.whens l i=true))
 case atStart=>exact⟨0,by omega,rfl,rfl,M,fun i h=>absurd h (Nat.not_lt_zero i)⟩
 case round=>
  clear M
  obtain⟨i,hi,rfl,rfl,M,HO⟩:=hrel
  by_cases hlt:i<v.n3
  ·have hil:i<l.length:=by have:=NX.out;omega
   have hiw:i<R.whens.length:=by have:=HLW.out;omega
   obtain⟨cx,ox,rowx,hixx, -,hrrx,hwx⟩:=SlF.rowAt (P:=Tryz.prog) HX.out eveF_firm Tryz.underlying26 size_eve (i:=i) hil
   obtain⟨px,qx,rx,ex,ux⟩:=hrrx
   subst ex
   have HXR:=Lib.hid (fun wx hb=>(hwx wx hb).1)
   have HXN:Hid (∀ wx,Below w0.heap.size w0 wx→wx.cell? ⟨cx,ox,none⟩=some (.int .i64 l[i].e.number)):=fun wx hb=>(hwx wx hb).1 0 _ rfl
   obtain⟨cp,op,rowp,hixp, -,hrrp,hwp⟩:=SlF.rowAt (P:=Tryz.prog) HW.out patF_firm Tryz.underlying53 size_pat (i:=i) hiw
   obtain⟨so,sn,sc,ep,up⟩:=hrrp
   subst ep
   have HPR:=Lib.hid (fun wx hb=>(hwp wx hb).1)
   have HTK:Hid (∀ wx,Below w0.heap.size w0 wx→Calls Tryz.prog 53 #[.slice v.a1 v.n1 v.c1,.agg (rulC R (.slice b1 m1 e1) (.slice b2 m2 e2) (.slice b3 m3 e3) (.slice b4 m4 e4) (.slice b6 m6 e6)).toArray,.agg (patC R.whens[i] so sn sc).toArray,.agg #[.int .i64 l[i].e.number,.int .i64 l[i].e.type,.int .i64 l[i].e.start,.int .i64 l[i].e.stop,.slice px qx rx],.slice v.a3 i v.c3] wx fun e w' =>e= .returned (.bool (takenB b.types R.whens (l.take i) l[i] R.whens[i]))∧Below wx.heap.size wx w'):=fun wx hb=>(HG.out.below hb).taken hil hiw (up.below condF_firm hb) (ux.below (plainF_firm _) hb)
   unfold rulC at HTK
   have H1i:=Lib.hid (H1.out i hil)
   have HO2:Hid (oneB b.types R.whens l i=true→ ∀ i2,i2<i+1→oneB b.types R.whens l i2=true):=fun h i2 hi2=>by
    by_cases e:i2=i
    ·subst e;exact h
    ·exact HO.out i2 (by omega)
   have HNS:Hid (numE (l.take (i+1))=_):=numE_snoc hil
   have hib:(inT (l.take i) l[i]=true→T=false):=fun h=>H1i.out (by rw[oneB_at hil hiw,h];rfl)
   have HIB:=Lib.hid hib
   have HIN:Hid (inT (l.take i) l[i]=true∨inT (l.take i) l[i]=false):=by show _∨_;cases inT (l.take i) l[i]<;>simp
   have HIA:Hid ((∃ j,∃ hj:j<l.length,j<i∧l[j].e.number=l[i].e.number)→inT (l.take i) l[i]=true):=fun⟨j,hj,hji,he⟩=>by
    unfold inT
    refine List.any_eq_true.2 ⟨l[j],?_,by simp[he]⟩
    have:j<(l.take i).length:=by rw[List.length_take];omega
    have h2:=List.getElem_mem this
    rwa[List.getElem_take]at h2
   have HIZ:Hid ((∀ j (hj:j<l.length),j<i→l[j].e.number≠l[i].e.number)→inT (l.take i) l[i]=false):=fun h=>by
    unfold inT
    refine List.any_eq_false.2 fun y hy=>?_
    obtain⟨j,hj,rfl⟩:=List.mem_iff_getElem.1 hy
    rw[List.length_take]at hj
    rw[List.getElem_take]
    simpa using h j (by omega) (by omega)
   have H1T:Hid (inT (l.take i) l[i]=false→takenB b.types R.whens (l.take i) l[i] R.whens[i]=false→T=false):=fun h h' =>H1i.out (by rw[oneB_at hil hiw,h,h'];rfl)
   have H1O:Hid (inT (l.take i) l[i]=false→takenB b.types R.whens (l.take i) l[i] R.whens[i]=true→oneB b.types R.whens l i=true):=fun h h' =>by rw[oneB_at hil hiw,h,h'];rfl
   clear hwx hwp HO hib ux up HIN
   go_wp2_with (first|(with_reducible (first|refine wq M ?_|(refine wS M ?_;clear M;intro w M)|(refine wV M ?_;clear M;intro z w M)|(refine wR M ?_;clear M;intro q w M))))
   go_loopg [11] i (fun f k wr=> ∃ (j:Nat),j+f=i∧k= .int .i64 j∧Mem (StaysB g w0) g w0 wr ⟨0,0⟩ (own za [.string R.name,.slice b1 m1 e1,.slice b2 m2 e2,.slice b3 m3 e3,.slice b4 m4 e4,.string R.etype,.slice b6 m6 e6] 60::[])∧Hid (∀ k (hk:k<l.length),k<j→l[k].e.number≠l[i].e.number))
   case atStart=>exact⟨0,by omega,rfl,M,fun k _ h=>absurd h (Nat.not_lt_zero k)⟩
   case round=>
    clear M
    obtain⟨k,hk,rfl,M,HK⟩:=hrel
    by_cases hki:k<i
    ·have hkl:k<l.length:=by omega
     obtain⟨cy,oy,rowy,hixy, -,hrry,hwy⟩:=SlF.rowAt (P:=Tryz.prog) HX.out eveF_firm Tryz.underlying26 size_eve (i:=k) hkl
     obtain⟨py,qy,ry,ey,uy⟩:=hrry
     subst ey
     have HYN:Hid (∀ wx,Below w0.heap.size w0 wx→wx.cell? ⟨cy,oy,none⟩=some (.int .i64 l[k].e.number)):=fun wx hb=>(hwy wx hb).1 0 _ rfl
     clear hwy uy
     by_cases he:l[k].e.number=l[i].e.number
     ·have hv:=HIB.out (HIA.out ⟨k,hkl,hki,he⟩)
      have HV:=Lib.hid hv
      have hbe:(l[k].e.number==l[i].e.number)=true:=by simp[he]
      rw[he]at HYN hbe
      clear he hv
      generalize l[i].e.number=nx at HXN HYN hbe
      go_wp2_with (first|(with_reducible (first|refine wq M ?_|(refine wS M ?_;clear M;intro w M)|(refine wV M ?_;clear M;intro z w M)|(refine wR M ?_;clear M;intro q w M))))
      ((refine wp_region_calm M (by kernel_rfl) (by kernel_rfl) ?_);(repeat(first|((with_reducible refine c_list rfl fun K hK=>?_);(first|(refine c_load (l' :=?_) ⟨_,M⟩ (fun w M=>?_) ?_;rotate_left;focus((first|(refine q_cellat (HXN.out _ M.new) ?_)|(refine q_cellat (HYN.out _ M.new) ?_)|refine q_get M (by exact rfl) ?_|refine q_all M (by rfl) ?_|refine q_prt M (by rfl) ?_);refine⟨rfl,?_⟩;with_reducible rfl))|(refine c_pure (v:=?_) (fun w=>?_) ?_;rotate_left;focus(go_simp;try with_reducible rfl)));(try go_simp);with_reducible refine hK _ ?_;clear hK K)|((with_reducible refine c_listg fun K hK=>?_);(first|(refine c_load (l' :=?_) ⟨_,M⟩ (fun w M=>?_) ?_;rotate_left;focus((first|(refine q_cellat (HXN.out _ M.new) ?_)|(refine q_cellat (HYN.out _ M.new) ?_)|refine q_get M (by exact rfl) ?_|refine q_all M (by rfl) ?_|refine q_prt M (by rfl) ?_);refine⟨rfl,?_⟩;with_reducible rfl))|(refine c_pure (v:=?_) (fun w=>?_) ?_;rotate_left;focus(go_simp;try with_reducible rfl)));(try go_simp);with_reducible refine hK _ ?_;clear hK K)|(with_reducible refine c_skipT ?_)|(with_reducible refine c_skipF ?_)));(refine wpQuiet_nil ?_);clear M;intro w M)
      go_wp2_with (first|(with_reducible (first|refine wq M ?_|(refine wS M ?_;clear M;intro w M)|(refine wV M ?_;clear M;intro z w M)|(refine wR M ?_;clear M;intro q w M))))
      go_ret
      rw[HV.out]
      exact⟨rfl,M.new⟩
     ·have hbe:(l[k].e.number==l[i].e.number)=false:=by simp[he]
      have HK2:Hid (∀ k2 (hk:k2<l.length),k2<k+1→l[k2].e.number≠l[i].e.number):=fun k2 hk2 h2=>by
       by_cases e:k2=k
       ·subst e;exact he
       ·exact HK.out k2 hk2 (by omega)
      clear he HK
      go_wp2_with (first|(with_reducible (first|refine wq M ?_|(refine wS M ?_;clear M;intro w M)|(refine wV M ?_;clear M;intro z w M)|(refine wR M ?_;clear M;intro q w M))))
      ((refine wp_region_calm M (by kernel_rfl) (by kernel_rfl) ?_);(repeat(first|((with_reducible refine c_list rfl fun K hK=>?_);(first|(refine c_load (l' :=?_) ⟨_,M⟩ (fun w M=>?_) ?_;rotate_left;focus((first|(refine q_cellat (HXN.out _ M.new) ?_)|(refine q_cellat (HYN.out _ M.new) ?_)|refine q_get M (by exact rfl) ?_|refine q_all M (by rfl) ?_|refine q_prt M (by rfl) ?_);refine⟨rfl,?_⟩;with_reducible rfl))|(refine c_pure (v:=?_) (fun w=>?_) ?_;rotate_left;focus(go_simp;try with_reducible rfl)));(try go_simp);with_reducible refine hK _ ?_;clear hK K)|((with_reducible refine c_listg fun K hK=>?_);(first|(refine c_load (l' :=?_) ⟨_,M⟩ (fun w M=>?_) ?_;rotate_left;focus((first|(refine q_cellat (HXN.out _ M.new) ?_)|(refine q_cellat (HYN.out _ M.new) ?_)|refine q_get M (by exact rfl) ?_|refine q_all M (by rfl) ?_|refine q_prt M (by rfl) ?_);refine⟨rfl,?_⟩;with_reducible rfl))|(refine c_pure (v:=?_) (fun w=>?_) ?_;rotate_left;focus(go_simp;try with_reducible rfl)));(try go_simp);with_reducible refine hK _ ?_;clear hK K)|(with_reducible refine c_skipT ?_)|(with_reducible refine c_skipF ?_)));(refine wpQuiet_nil ?_);clear M;intro w M)
      go_wp2_with (first|(with_reducible (first|refine wq M ?_|(refine wS M ?_;clear M;intro w M)|(refine wV M ?_;clear M;intro z w M)|(refine wR M ?_;clear M;intro q w M))))
      go_roundg (i - (k+1))
      case measure=>omega
      case rel=>exact⟨k+1,by omega,by go_num,M,HK2⟩
    ·have hin:=HIZ.out (fun k2 hk2 h2=>HK.out k2 hk2 (by omega))
     have H1T2:=Lib.hid (H1T.out hin)
     have H1O2:=Lib.hid (fun h=>HO2.out (H1O.out hin h))
     have hic:i≤v.c3:=by have:=HX.out.2.1;omega
     clear HK H1T H1O HIZ HIA HIB H1i HO2 hin
     generalize takenB b.types R.whens (l.take i) l[i] R.whens[i]=tB at HTK H1T2 H1O2
     generalize R.whens[i]=P at HTK HPR
     unfold patC cndC opdC at HTK HPR
     simp only[List.cons_append,List.nil_append]at HTK HPR
     generalize numE (l.take i)=nn at HNS ⊢
     generalize l[i]=x at HTK HXR HXN HNS
     cases tB with
     |false=>
      have HV:=Lib.hid (H1T2.out rfl)
      clear H1T2 H1O2
      go_wp2_with (first|(with_reducible (first|refine wq M ?_|(refine wS M ?_;clear M;intro w M)|(refine wV M ?_;clear M;intro z w M)|(refine wR M ?_;clear M;intro q w M))))
      ((refine wp_region_calm M (by kernel_rfl) (by kernel_rfl) ?_);(repeat(first|((with_reducible refine c_list rfl fun K hK=>?_);(first|(refine c_load (l' :=?_) ⟨_,M⟩ (fun w M=>?_) ?_;rotate_left;focus((first|(refine q_at (HPR.out _ M.new) (by rfl) ?_)|(refine q_at (HXR.out _ M.new) (by rfl) ?_)|refine q_get M (by exact rfl) ?_|refine q_all M (by rfl) ?_|refine q_prt M (by rfl) ?_);refine⟨rfl,?_⟩;with_reducible rfl))|(refine c_call (n:=53) (args:=?_) (v:=?_) (fun w=>?_) (fun w M=>?_) ?_;rotate_left 2;(focus(go_simp;try with_reducible rfl));(focus(with_reducible refine(HTK.out _ M.new).mono ?_;rintro e w5 ⟨rfl,hb5⟩;refine⟨?_,M.below hb5⟩;with_reducible rfl)))|(refine c_pure (v:=?_) (fun w=>?_) ?_;rotate_left;focus(go_simp;try with_reducible rfl)));(try go_simp);with_reducible refine hK _ ?_;clear hK K)|((with_reducible refine c_listg fun K hK=>?_);(first|(refine c_load (l' :=?_) ⟨_,M⟩ (fun w M=>?_) ?_;rotate_left;focus((first|(refine q_at (HPR.out _ M.new) (by rfl) ?_)|(refine q_at (HXR.out _ M.new) (by rfl) ?_)|refine q_get M (by exact rfl) ?_|refine q_all M (by rfl) ?_|refine q_prt M (by rfl) ?_);refine⟨rfl,?_⟩;with_reducible rfl))|(refine c_call (n:=53) (args:=?_) (v:=?_) (fun w=>?_) (fun w M=>?_) ?_;rotate_left 2;(focus(go_simp;try with_reducible rfl));(focus(with_reducible refine(HTK.out _ M.new).mono ?_;rintro e w5 ⟨rfl,hb5⟩;refine⟨?_,M.below hb5⟩;with_reducible rfl)))|(refine c_pure (v:=?_) (fun w=>?_) ?_;rotate_left;focus(go_simp;try with_reducible rfl)));(try go_simp);with_reducible refine hK _ ?_;clear hK K)|(with_reducible refine c_skipT ?_)|(with_reducible refine c_skipF ?_)));(refine wpQuiet_nil ?_);clear M;intro w M)
      go_wp2_with (first|(with_reducible (first|refine wq M ?_|(refine wS M ?_;clear M;intro w M)|(refine wV M ?_;clear M;intro z w M)|(refine wR M ?_;clear M;intro q w M))))
      go_ret
      rw[HV.out]
      exact⟨rfl,M.new⟩
     |true=>
      have HO3:=Lib.hid (H1O2.out rfl)
      clear H1T2 H1O2
      go_wp2_with (first|(with_reducible (first|refine wq M ?_|(refine wS M ?_;clear M;intro w M)|(refine wV M ?_;clear M;intro z w M)|(refine wR M ?_;clear M;intro q w M))))
      ((refine wp_region_calm M (by kernel_rfl) (by kernel_rfl) ?_);(repeat(first|((with_reducible refine c_list rfl fun K hK=>?_);(first|(refine c_load (l' :=?_) ⟨_,M⟩ (fun w M=>?_) ?_;rotate_left;focus((first|(refine q_at (HPR.out _ M.new) (by rfl) ?_)|(refine q_at (HXR.out _ M.new) (by rfl) ?_)|refine q_get M (by exact rfl) ?_|refine q_all M (by rfl) ?_|refine q_prt M (by rfl) ?_);refine⟨rfl,?_⟩;with_reducible rfl))|(refine c_call (n:=53) (args:=?_) (v:=?_) (fun w=>?_) (fun w M=>?_) ?_;rotate_left 2;(focus(go_simp;try with_reducible rfl));(focus(with_reducible refine(HTK.out _ M.new).mono ?_;rintro e w5 ⟨rfl,hb5⟩;refine⟨?_,M.below hb5⟩;with_reducible rfl)))|(refine c_pure (v:=?_) (fun w=>?_) ?_;rotate_left;focus(go_simp;try with_reducible rfl)));(try go_simp);with_reducible refine hK _ ?_;clear hK K)|((with_reducible refine c_listg fun K hK=>?_);(first|(refine c_load (l' :=?_) ⟨_,M⟩ (fun w M=>?_) ?_;rotate_left;focus((first|(refine q_at (HPR.out _ M.new) (by rfl) ?_)|(refine q_at (HXR.out _ M.new) (by rfl) ?_)|refine q_get M (by exact rfl) ?_|refine q_all M (by rfl) ?_|refine q_prt M (by rfl) ?_);refine⟨rfl,?_⟩;with_reducible rfl))|(refine c_call (n:=53) (args:=?_) (v:=?_) (fun w=>?_) (fun w M=>?_) ?_;rotate_left 2;(focus(go_simp;try with_reducible rfl));(focus(with_reducible refine(HTK.out _ M.new).mono ?_;rintro e w5 ⟨rfl,hb5⟩;refine⟨?_,M.below hb5⟩;with_reducible rfl)))|(refine c_pure (v:=?_) (fun w=>?_) ?_;rotate_left;focus(go_simp;try with_reducible rfl)));(try go_simp);with_reducible refine hK _ ?_;clear hK K)|(with_reducible refine c_skipT ?_)|(with_reducible refine c_skipF ?_)));(refine wpQuiet_nil ?_);clear M;intro w M)
      by_cases hc:nn<x.e.number
      ·have hcb:decide (nn<x.e.number)=true:=by simpa using hc
       have HN:Hid (numE (l.take (i+1))=x.e.number):=by show _=_;rw[HNS.out,if_pos hc]
       clear HNS hc
       go_wp2_with (first|(with_reducible (first|refine wq M ?_|(refine wS M ?_;clear M;intro w M)|(refine wV M ?_;clear M;intro z w M)|(refine wR M ?_;clear M;intro q w M)|refine wC (HXN.out _ M.new) ?_)))
       go_roundg (v.n3 - (i+1))
       case measure=>omega
       case rel=>exact⟨i+1,by omega,by rw[HN.out],by go_num,M,HO3⟩
      ·have hcb:decide (nn<x.e.number)=false:=by simpa using hc
       have HN:Hid (numE (l.take (i+1))=nn):=by show _=_;rw[HNS.out,if_neg hc]
       clear HNS hc
       go_wp2_with (first|(with_reducible (first|refine wq M ?_|(refine wS M ?_;clear M;intro w M)|(refine wV M ?_;clear M;intro z w M)|(refine wR M ?_;clear M;intro q w M)|refine wC (HXN.out _ M.new) ?_)))
       go_roundg (v.n3 - (i+1))
       case measure=>omega
       case rel=>exact⟨i+1,by omega,by rw[HN.out],by go_num,M,HO3⟩
  ·have hje:l.take i=l:=List.take_of_length_le (by have:=NX.out;omega)
   rw[hje]
   have HOA:Hid (∀ i,i<l.length→oneB b.types R.whens l i=true):=fun i2 h=>HO.out i2 (by have:=NX.out;omega)
   clear HO hje H1
   generalize numE l=top at H3 H4 ⊢
   go_wp2_with (first|(with_reducible (first|refine wq M ?_|(refine wS M ?_;clear M;intro w M)|(refine wV M ?_;clear M;intro z w M)|(refine wR M ?_;clear M;intro q w M))))
   go_loopg [12] m4 (fun f i wr=> ∃ (j:Nat),j+f=m4∧i= .int .i64 j∧Mem (StaysB g w0) g w0 wr ⟨0,0⟩ (own za [.string R.name,.slice b1 m1 e1,.slice b2 m2 e2,.slice b3 m3 e3,.slice b4 m4 e4,.string R.etype,.slice b6 m6 e6] 60::[])∧Hid (NoB R.links (fun k=>!oldL R.whens l k) j))
   case atStart=>exact⟨0,by omega,rfl,M,noB_zero _ _⟩
   case round=>
    clear M
    obtain⟨j,hj,rfl,M,HB⟩:=hrel
    by_cases hlt2:j<m4
    ·have hkl:j<R.links.length:=by have:=NY.out;omega
     obtain⟨ca,oa,rowa,hixa, -,hrra,hwa⟩:=SlF.rowAt (P:=Tryz.prog) HY.out lnkF_firm Tryz.underlying55 size_lnk (i:=j) hkl
     obtain⟨lo,ln,lc,ea,uo⟩:=hrra
     subst ea
     have HKR:=Lib.hid (fun wx hb=>(hwa wx hb).1)
     have HKL:Hid (∀ wx,Below w0.heap.size w0 wx→wx.cell? ⟨ca,oa,none⟩=some (.string R.links[j].left)):=fun wx hb=>(hwa wx hb).1 0 _ rfl
     have HK2:Hid (∀ wx,Below w0.heap.size w0 wx→wx.cell? ⟨ca,oa+2,none⟩=some (.string R.links[j].right)):=fun wx hb=>(hwa wx hb).1 2 _ rfl
     have HG2:=Lib.hid (H2.out _ (List.getElem_mem hkl))
     have HB2:Hid (oldL R.whens l R.links[j]=true→NoB R.links (fun k=>!oldL R.whens l k) (j+1)):=fun h=>noB_succ HB.out hkl (by simp[h])
     have HOE:=Lib.hid (link_opts (HLZ.out j hkl))
     have HUO:=Lib.hid uo
     have HLH:Hid (∀ wx (s t:Int×Int),Below w0.heap.size w0 wx→bothE s.1 s.2 t.1 t.2=0→Calls Tryz.prog 82 #[.agg #[.string R.links[j].left,.slice lo ln lc,.string R.links[j].right],.agg #[.int .i64 s.1,.int .i64 s.2],.agg #[.int .i64 t.1,.int .i64 t.2]] wx fun e w' =>e= .returned (.bool (lnkB R.links[j] s t))∧Below wx.heap.size wx w'):=fun wx s t hb hs=>
      linkHolds_any (HG.out.below hb).pos R.links[j] lo ln lc (HUO.out.below (plainF_firm _) hb) s t HOE.out hs
     generalize R.links[j]=k at HKR HKL HK2 HG2 HB2 HLH
     clear hwa uo HB hkl HOE HUO
     unfold lnkC at HKR
     have HPL:=Lib.hid (fun wx hb=>HPN.out wx k.left hb)
     have HPR2:=Lib.hid (fun wx hb=>HPN.out wx k.right hb)
     by_cases hb1:patI R.whens k.left<R.whens.length
     ·rw[show placeV (patI R.whens k.left) R.whens.length=((patI R.whens k.left:Nat):Int)by unfold placeV;rw[if_pos hb1]]at HPL
      by_cases hb2:patI R.whens k.right<R.whens.length
      ·rw[show placeV (patI R.whens k.right) R.whens.length=((patI R.whens k.right:Nat):Int)by unfold placeV;rw[if_pos hb2]]at HPR2
       have hi1:patI R.whens k.left<l.length:=by have:=HLW.out;omega
       have hi2:patI R.whens k.right<l.length:=by have:=HLW.out;omega
       obtain⟨c1,o1,row1,hix1, -,hrr1,hw1⟩:=SlF.rowAt (P:=Tryz.prog) HX.out eveF_firm Tryz.underlying26 size_eve (i:=patI R.whens k.left) hi1
       obtain⟨p1,q1,s1,ea1, -⟩:=hrr1
       subst ea1
       obtain⟨c2,o2,row2,hix2, -,hrr2,hw2⟩:=SlF.rowAt (P:=Tryz.prog) HX.out eveF_firm Tryz.underlying26 size_eve (i:=patI R.whens k.right) hi2
       obtain⟨p2,q2,s2,ea2, -⟩:=hrr2
       subst ea2
       have HA1:Hid (∀ wx,Below w0.heap.size w0 wx→wx.rangeAt c1 (o1+2) [.int .i64 l[patI R.whens k.left].e.start,.int .i64 l[patI R.whens k.left].e.stop]):=fun wx hb=>range_sub (hw1 wx hb).1 2 _ rfl
       have HA2:Hid (∀ wx,Below w0.heap.size w0 wx→wx.rangeAt c2 (o2+2) [.int .i64 l[patI R.whens k.right].e.start,.int .i64 l[patI R.whens k.right].e.stop]):=fun wx hb=>range_sub (hw2 wx hb).1 2 _ rfl
       have hs:bothE l[patI R.whens k.left].e.start l[patI R.whens k.left].e.stop l[patI R.whens k.right].e.start l[patI R.whens k.right].e.stop=0:=bothE_of (HSP.out _ (List.getElem_mem hi1)) (HSP.out _ (List.getElem_mem hi2))
       have HLH2:=Lib.hid (fun wx hb=>HLH.out wx (spanX l[patI R.whens k.left]) (spanX l[patI R.whens k.right]) hb hs)
       have hsp:oldL R.whens l k=lnkB k (spanX l[patI R.whens k.left]) (spanX l[patI R.whens k.right]):=by
        unfold oldL bothB spansB
        simp[List.getD,List.getElem?_eq_getElem hi1,List.getElem?_eq_getElem hi2,hb1,hb2]
       rw[hsp]at HG2 HB2
       generalize lnkB k (spanX l[patI R.whens k.left]) (spanX l[patI R.whens k.right])=lb at HLH2 HG2 HB2
       unfold spanX at HLH2
       dsimp only at HLH2
       have hj1:patI R.whens k.left<3:=by have:=NX.out;omega
       have hj2:patI R.whens k.right<3:=by have:=NX.out;omega
       generalize l[patI R.whens k.left]=x1 at HA1 HLH2
       generalize l[patI R.whens k.right]=x2 at HA2 HLH2
       clear hw1 hw2 hs hsp hi1 hi2 hb1 hb2 HLH
       generalize patI R.whens k.left=i1 at HPL hix1 hj1
       generalize patI R.whens k.right=i2 at HPR2 hix2 hj2
       have hi0: ¬ ((i1:Int)<0):=by omega
       have hj0: ¬ ((i2:Int)<0):=by omega
       have hi00:(0:Int)≤(i1:Int):=by omega
       have hj00:(0:Int)≤(i2:Int):=by omega
       go_wp2_with (first|(with_reducible (first|refine wq M ?_|(refine wS M ?_;clear M;intro w M)|(refine wV M ?_;clear M;intro z w M)|(refine wR M ?_;clear M;intro q w M))))
       ((refine wp_region_calm M (by kernel_rfl) (by kernel_rfl) ?_);(repeat(first|((with_reducible refine c_list rfl fun K hK=>?_);(first|(refine c_load (l' :=?_) ⟨_,M⟩ (fun w M=>?_) ?_;rotate_left;focus((first|(refine q_cellat (HKL.out _ M.new) ?_)|refine q_get M (by exact rfl) ?_|refine q_all M (by rfl) ?_|refine q_prt M (by rfl) ?_);refine⟨rfl,?_⟩;with_reducible rfl))|(refine c_call (n:=81) (args:=?_) (v:=?_) (fun w=>?_) (fun w M=>?_) ?_;rotate_left 2;(focus(go_simp;try with_reducible rfl));(focus(with_reducible refine(HPL.out _ M.new).mono ?_;rintro e w5 ⟨rfl,hb5⟩;refine⟨?_,M.below hb5⟩;with_reducible rfl)))|(refine c_pure (v:=?_) (fun w=>?_) ?_;rotate_left;focus(go_simp;try with_reducible rfl)));(try go_simp);with_reducible refine hK _ ?_;clear hK K)|((with_reducible refine c_listg fun K hK=>?_);(first|(refine c_load (l' :=?_) ⟨_,M⟩ (fun w M=>?_) ?_;rotate_left;focus((first|(refine q_cellat (HKL.out _ M.new) ?_)|refine q_get M (by exact rfl) ?_|refine q_all M (by rfl) ?_|refine q_prt M (by rfl) ?_);refine⟨rfl,?_⟩;with_reducible rfl))|(refine c_call (n:=81) (args:=?_) (v:=?_) (fun w=>?_) (fun w M=>?_) ?_;rotate_left 2;(focus(go_simp;try with_reducible rfl));(focus(with_reducible refine(HPL.out _ M.new).mono ?_;rintro e w5 ⟨rfl,hb5⟩;refine⟨?_,M.below hb5⟩;with_reducible rfl)))|(refine c_pure (v:=?_) (fun w=>?_) ?_;rotate_left;focus(go_simp;try with_reducible rfl)));(try go_simp);with_reducible refine hK _ ?_;clear hK K)|(with_reducible refine c_skipT ?_)|(with_reducible refine c_skipF ?_)));(refine wpQuiet_nil ?_);clear M;intro w M)
       go_wp2_with (first|(with_reducible (first|refine wq M ?_|(refine wS M ?_;clear M;intro w M)|(refine wV M ?_;clear M;intro z w M)|(refine wR M ?_;clear M;intro q w M))))
       ((refine wp_region_calm M (by kernel_rfl) (by kernel_rfl) ?_);(repeat(first|((with_reducible refine c_list rfl fun K hK=>?_);(first|(refine c_load (l' :=?_) ⟨_,M⟩ (fun w M=>?_) ?_;rotate_left;focus((first|(refine q_cellat (HK2.out _ M.new) ?_)|refine q_get M (by exact rfl) ?_|refine q_all M (by rfl) ?_|refine q_prt M (by rfl) ?_);refine⟨rfl,?_⟩;with_reducible rfl))|(refine c_call (n:=81) (args:=?_) (v:=?_) (fun w=>?_) (fun w M=>?_) ?_;rotate_left 2;(focus(go_simp;try with_reducible rfl));(focus(with_reducible refine(HPR2.out _ M.new).mono ?_;rintro e w5 ⟨rfl,hb5⟩;refine⟨?_,M.below hb5⟩;with_reducible rfl)))|(refine c_pure (v:=?_) (fun w=>?_) ?_;rotate_left;focus(go_simp;try with_reducible rfl)));(try go_simp);with_reducible refine hK _ ?_;clear hK K)|((with_reducible refine c_listg fun K hK=>?_);(first|(refine c_load (l' :=?_) ⟨_,M⟩ (fun w M=>?_) ?_;rotate_left;focus((first|(refine q_cellat (HK2.out _ M.new) ?_)|refine q_get M (by exact rfl) ?_|refine q_all M (by rfl) ?_|refine q_prt M (by rfl) ?_);refine⟨rfl,?_⟩;with_reducible rfl))|(refine c_call (n:=81) (args:=?_) (v:=?_) (fun w=>?_) (fun w M=>?_) ?_;rotate_left 2;(focus(go_simp;try with_reducible rfl));(focus(with_reducible refine(HPR2.out _ M.new).mono ?_;rintro e w5 ⟨rfl,hb5⟩;refine⟨?_,M.below hb5⟩;with_reducible rfl)))|(refine c_pure (v:=?_) (fun w=>?_) ?_;rotate_left;focus(go_simp;try with_reducible rfl)));(try go_simp);with_reducible refine hK _ ?_;clear hK K)|(with_reducible refine c_skipT ?_)|(with_reducible refine c_skipF ?_)));(refine wpQuiet_nil ?_);clear M;intro w M)
       go_wp2_with (first|(with_reducible (first|refine wq M ?_|(refine wS M ?_;clear M;intro w M)|(refine wV M ?_;clear M;intro z w M)|(refine wR M ?_;clear M;intro q w M))))
       cases lb with
       |true=>
        have HN:=Lib.hid (HB2.out rfl)
        clear HB2 HG2
        ((refine wp_region_calm M (by kernel_rfl) (by kernel_rfl) ?_);(repeat(first|((with_reducible refine c_list rfl fun K hK=>?_);(first|(refine c_load (l' :=?_) ⟨_,M⟩ (fun w M=>?_) ?_;rotate_left;focus((first|(refine q_at (HKR.out _ M.new) (by rfl) ?_)|(refine q_at (HA1.out _ M.new) (by rfl) ?_)|(refine q_at (HA2.out _ M.new) (by rfl) ?_)|refine q_get M (by exact rfl) ?_|refine q_all M (by rfl) ?_|refine q_prt M (by rfl) ?_);refine⟨rfl,?_⟩;with_reducible rfl))|(refine c_call (n:=82) (args:=?_) (v:=?_) (fun w=>?_) (fun w M=>?_) ?_;rotate_left 2;(focus(go_simp;try with_reducible rfl));(focus(with_reducible refine(HLH2.out _ M.new).mono ?_;rintro e w5 ⟨rfl,hb5⟩;refine⟨?_,M.below hb5⟩;with_reducible rfl)))|(refine c_pure (v:=?_) (fun w=>?_) ?_;rotate_left;focus(go_simp;try with_reducible rfl)));(try go_simp);with_reducible refine hK _ ?_;clear hK K)|((with_reducible refine c_listg fun K hK=>?_);(first|(refine c_load (l' :=?_) ⟨_,M⟩ (fun w M=>?_) ?_;rotate_left;focus((first|(refine q_at (HKR.out _ M.new) (by rfl) ?_)|(refine q_at (HA1.out _ M.new) (by rfl) ?_)|(refine q_at (HA2.out _ M.new) (by rfl) ?_)|refine q_get M (by exact rfl) ?_|refine q_all M (by rfl) ?_|refine q_prt M (by rfl) ?_);refine⟨rfl,?_⟩;with_reducible rfl))|(refine c_call (n:=82) (args:=?_) (v:=?_) (fun w=>?_) (fun w M=>?_) ?_;rotate_left 2;(focus(go_simp;try with_reducible rfl));(focus(with_reducible refine(HLH2.out _ M.new).mono ?_;rintro e w5 ⟨rfl,hb5⟩;refine⟨?_,M.below hb5⟩;with_reducible rfl)))|(refine c_pure (v:=?_) (fun w=>?_) ?_;rotate_left;focus(go_simp;try with_reducible rfl)));(try go_simp);with_reducible refine hK _ ?_;clear hK K)|(with_reducible refine c_skipT ?_)|(with_reducible refine c_skipF ?_)));(refine wpQuiet_nil ?_);clear M;intro w M)
        go_wp2_with (first|(with_reducible (first|refine wq M ?_|(refine wS M ?_;clear M;intro w M)|(refine wV M ?_;clear M;intro z w M)|(refine wR M ?_;clear M;intro q w M))))
        go_roundg (m4 - (j+1))
        case measure=>omega
        case rel=>exact⟨j+1,by omega,by go_num,M,HN⟩
       |false=>
        have HV:=Lib.hid (HG2.out rfl)
        clear HB2 HG2
        ((refine wp_region_calm M (by kernel_rfl) (by kernel_rfl) ?_);(repeat(first|((with_reducible refine c_list rfl fun K hK=>?_);(first|(refine c_load (l' :=?_) ⟨_,M⟩ (fun w M=>?_) ?_;rotate_left;focus((first|(refine q_at (HKR.out _ M.new) (by rfl) ?_)|(refine q_at (HA1.out _ M.new) (by rfl) ?_)|(refine q_at (HA2.out _ M.new) (by rfl) ?_)|refine q_get M (by exact rfl) ?_|refine q_all M (by rfl) ?_|refine q_prt M (by rfl) ?_);refine⟨rfl,?_⟩;with_reducible rfl))|(refine c_call (n:=82) (args:=?_) (v:=?_) (fun w=>?_) (fun w M=>?_) ?_;rotate_left 2;(focus(go_simp;try with_reducible rfl));(focus(with_reducible refine(HLH2.out _ M.new).mono ?_;rintro e w5 ⟨rfl,hb5⟩;refine⟨?_,M.below hb5⟩;with_reducible rfl)))|(refine c_pure (v:=?_) (fun w=>?_) ?_;rotate_left;focus(go_simp;try with_reducible rfl)));(try go_simp);with_reducible refine hK _ ?_;clear hK K)|((with_reducible refine c_listg fun K hK=>?_);(first|(refine c_load (l' :=?_) ⟨_,M⟩ (fun w M=>?_) ?_;rotate_left;focus((first|(refine q_at (HKR.out _ M.new) (by rfl) ?_)|(refine q_at (HA1.out _ M.new) (by rfl) ?_)|(refine q_at (HA2.out _ M.new) (by rfl) ?_)|refine q_get M (by exact rfl) ?_|refine q_all M (by rfl) ?_|refine q_prt M (by rfl) ?_);refine⟨rfl,?_⟩;with_reducible rfl))|(refine c_call (n:=82) (args:=?_) (v:=?_) (fun w=>?_) (fun w M=>?_) ?_;rotate_left 2;(focus(go_simp;try with_reducible rfl));(focus(with_reducible refine(HLH2.out _ M.new).mono ?_;rintro e w5 ⟨rfl,hb5⟩;refine⟨?_,M.below hb5⟩;with_reducible rfl)))|(refine c_pure (v:=?_) (fun w=>?_) ?_;rotate_left;focus(go_simp;try with_reducible rfl)));(try go_simp);with_reducible refine hK _ ?_;clear hK K)|(with_reducible refine c_skipT ?_)|(with_reducible refine c_skipF ?_)));(refine wpQuiet_nil ?_);clear M;intro w M)
        go_wp2_with (first|(with_reducible (first|refine wq M ?_|(refine wS M ?_;clear M;intro w M)|(refine wV M ?_;clear M;intro z w M)|(refine wR M ?_;clear M;intro q w M))))
        go_ret
        rw[HV.out]
        exact⟨rfl,M.new⟩
      ·rw[show placeV (patI R.whens k.right) R.whens.length= -1 by unfold placeV;rw[if_neg hb2]]at HPR2
       have HN:=Lib.hid (HB2.out (by unfold oldL bothB;simp[hb2]))
       generalize patI R.whens k.left=i1 at HPL
       have hi00:(0:Int)≤(i1:Int):=by omega
       clear HB2 HG2 hb1 hb2 HLH
       go_wp2_with (first|(with_reducible (first|refine wq M ?_|(refine wS M ?_;clear M;intro w M)|(refine wV M ?_;clear M;intro z w M)|(refine wR M ?_;clear M;intro q w M))))
       ((refine wp_region_calm M (by kernel_rfl) (by kernel_rfl) ?_);(repeat(first|((with_reducible refine c_list rfl fun K hK=>?_);(first|(refine c_load (l' :=?_) ⟨_,M⟩ (fun w M=>?_) ?_;rotate_left;focus((first|(refine q_cellat (HKL.out _ M.new) ?_)|refine q_get M (by exact rfl) ?_|refine q_all M (by rfl) ?_|refine q_prt M (by rfl) ?_);refine⟨rfl,?_⟩;with_reducible rfl))|(refine c_call (n:=81) (args:=?_) (v:=?_) (fun w=>?_) (fun w M=>?_) ?_;rotate_left 2;(focus(go_simp;try with_reducible rfl));(focus(with_reducible refine(HPL.out _ M.new).mono ?_;rintro e w5 ⟨rfl,hb5⟩;refine⟨?_,M.below hb5⟩;with_reducible rfl)))|(refine c_pure (v:=?_) (fun w=>?_) ?_;rotate_left;focus(go_simp;try with_reducible rfl)));(try go_simp);with_reducible refine hK _ ?_;clear hK K)|((with_reducible refine c_listg fun K hK=>?_);(first|(refine c_load (l' :=?_) ⟨_,M⟩ (fun w M=>?_) ?_;rotate_left;focus((first|(refine q_cellat (HKL.out _ M.new) ?_)|refine q_get M (by exact rfl) ?_|refine q_all M (by rfl) ?_|refine q_prt M (by rfl) ?_);refine⟨rfl,?_⟩;with_reducible rfl))|(refine c_call (n:=81) (args:=?_) (v:=?_) (fun w=>?_) (fun w M=>?_) ?_;rotate_left 2;(focus(go_simp;try with_reducible rfl));(focus(with_reducible refine(HPL.out _ M.new).mono ?_;rintro e w5 ⟨rfl,hb5⟩;refine⟨?_,M.below hb5⟩;with_reducible rfl)))|(refine c_pure (v:=?_) (fun w=>?_) ?_;rotate_left;focus(go_simp;try with_reducible rfl)));(try go_simp);with_reducible refine hK _ ?_;clear hK K)|(with_reducible refine c_skipT ?_)|(with_reducible refine c_skipF ?_)));(refine wpQuiet_nil ?_);clear M;intro w M)
       go_wp2_with (first|(with_reducible (first|refine wq M ?_|(refine wS M ?_;clear M;intro w M)|(refine wV M ?_;clear M;intro z w M)|(refine wR M ?_;clear M;intro q w M))))
       ((refine wp_region_calm M (by kernel_rfl) (by kernel_rfl) ?_);(repeat(first|((with_reducible refine c_list rfl fun K hK=>?_);(first|(refine c_load (l' :=?_) ⟨_,M⟩ (fun w M=>?_) ?_;rotate_left;focus((first|(refine q_cellat (HK2.out _ M.new) ?_)|refine q_get M (by exact rfl) ?_|refine q_all M (by rfl) ?_|refine q_prt M (by rfl) ?_);refine⟨rfl,?_⟩;with_reducible rfl))|(refine c_call (n:=81) (args:=?_) (v:=?_) (fun w=>?_) (fun w M=>?_) ?_;rotate_left 2;(focus(go_simp;try with_reducible rfl));(focus(with_reducible refine(HPR2.out _ M.new).mono ?_;rintro e w5 ⟨rfl,hb5⟩;refine⟨?_,M.below hb5⟩;with_reducible rfl)))|(refine c_pure (v:=?_) (fun w=>?_) ?_;rotate_left;focus(go_simp;try with_reducible rfl)));(try go_simp);with_reducible refine hK _ ?_;clear hK K)|((with_reducible refine c_listg fun K hK=>?_);(first|(refine c_load (l' :=?_) ⟨_,M⟩ (fun w M=>?_) ?_;rotate_left;focus((first|(refine q_cellat (HK2.out _ M.new) ?_)|refine q_get M (by exact rfl) ?_|refine q_all M (by rfl) ?_|refine q_prt M (by rfl) ?_);refine⟨rfl,?_⟩;with_reducible rfl))|(refine c_call (n:=81) (args:=?_) (v:=?_) (fun w=>?_) (fun w M=>?_) ?_;rotate_left 2;(focus(go_simp;try with_reducible rfl));(focus(with_reducible refine(HPR2.out _ M.new).mono ?_;rintro e w5 ⟨rfl,hb5⟩;refine⟨?_,M.below hb5⟩;with_reducible rfl)))|(refine c_pure (v:=?_) (fun w=>?_) ?_;rotate_left;focus(go_simp;try with_reducible rfl)));(try go_simp);with_reducible refine hK _ ?_;clear hK K)|(with_reducible refine c_skipT ?_)|(with_reducible refine c_skipF ?_)));(refine wpQuiet_nil ?_);clear M;intro w M)
       go_wp2_with (first|(with_reducible (first|refine wq M ?_|(refine wS M ?_;clear M;intro w M)|(refine wV M ?_;clear M;intro z w M)|(refine wR M ?_;clear M;intro q w M))))
       ((refine wp_region_calm M (by kernel_rfl) (by kernel_rfl) ?_);(repeat(first|((with_reducible refine c_list rfl fun K hK=>?_);(first|(refine c_load (l' :=?_) ⟨_,M⟩ (fun w M=>?_) ?_;rotate_left;focus((first|refine q_get M (by exact rfl) ?_|refine q_all M (by rfl) ?_|refine q_prt M (by rfl) ?_);refine⟨rfl,?_⟩;with_reducible rfl))|(refine c_pure (v:=?_) (fun w=>?_) ?_;rotate_left;focus(go_simp;try with_reducible rfl)));(try go_simp);with_reducible refine hK _ ?_;clear hK K)|((with_reducible refine c_listg fun K hK=>?_);(first|(refine c_load (l' :=?_) ⟨_,M⟩ (fun w M=>?_) ?_;rotate_left;focus((first|refine q_get M (by exact rfl) ?_|refine q_all M (by rfl) ?_|refine q_prt M (by rfl) ?_);refine⟨rfl,?_⟩;with_reducible rfl))|(refine c_pure (v:=?_) (fun w=>?_) ?_;rotate_left;focus(go_simp;try with_reducible rfl)));(try go_simp);with_reducible refine hK _ ?_;clear hK K)|(with_reducible refine c_skipT ?_)|(with_reducible refine c_skipF ?_)));(refine wpQuiet_nil ?_);clear M;intro w M)
       go_wp2_with (first|(with_reducible (first|refine wq M ?_|(refine wS M ?_;clear M;intro w M)|(refine wV M ?_;clear M;intro z w M)|(refine wR M ?_;clear M;intro q w M))))
       go_roundg (m4 - (j+1))
       case measure=>omega
       case rel=>exact⟨j+1,by omega,by go_num,M,HN⟩
     ·rw[show placeV (patI R.whens k.left) R.whens.length= -1 by unfold placeV;rw[if_neg hb1]]at HPL
      have HN:=Lib.hid (HB2.out (by unfold oldL bothB;simp[hb1]))
      generalize placeV (patI R.whens k.right) R.whens.length=pr at HPR2
      clear HB2 HG2 hb1 HLH
      go_wp2_with (first|(with_reducible (first|refine wq M ?_|(refine wS M ?_;clear M;intro w M)|(refine wV M ?_;clear M;intro z w M)|(refine wR M ?_;clear M;intro q w M))))
      ((refine wp_region_calm M (by kernel_rfl) (by kernel_rfl) ?_);(repeat(first|((with_reducible refine c_list rfl fun K hK=>?_);(first|(refine c_load (l' :=?_) ⟨_,M⟩ (fun w M=>?_) ?_;rotate_left;focus((first|(refine q_cellat (HKL.out _ M.new) ?_)|refine q_get M (by exact rfl) ?_|refine q_all M (by rfl) ?_|refine q_prt M (by rfl) ?_);refine⟨rfl,?_⟩;with_reducible rfl))|(refine c_call (n:=81) (args:=?_) (v:=?_) (fun w=>?_) (fun w M=>?_) ?_;rotate_left 2;(focus(go_simp;try with_reducible rfl));(focus(with_reducible refine(HPL.out _ M.new).mono ?_;rintro e w5 ⟨rfl,hb5⟩;refine⟨?_,M.below hb5⟩;with_reducible rfl)))|(refine c_pure (v:=?_) (fun w=>?_) ?_;rotate_left;focus(go_simp;try with_reducible rfl)));(try go_simp);with_reducible refine hK _ ?_;clear hK K)|((with_reducible refine c_listg fun K hK=>?_);(first|(refine c_load (l' :=?_) ⟨_,M⟩ (fun w M=>?_) ?_;rotate_left;focus((first|(refine q_cellat (HKL.out _ M.new) ?_)|refine q_get M (by exact rfl) ?_|refine q_all M (by rfl) ?_|refine q_prt M (by rfl) ?_);refine⟨rfl,?_⟩;with_reducible rfl))|(refine c_call (n:=81) (args:=?_) (v:=?_) (fun w=>?_) (fun w M=>?_) ?_;rotate_left 2;(focus(go_simp;try with_reducible rfl));(focus(with_reducible refine(HPL.out _ M.new).mono ?_;rintro e w5 ⟨rfl,hb5⟩;refine⟨?_,M.below hb5⟩;with_reducible rfl)))|(refine c_pure (v:=?_) (fun w=>?_) ?_;rotate_left;focus(go_simp;try with_reducible rfl)));(try go_simp);with_reducible refine hK _ ?_;clear hK K)|(with_reducible refine c_skipT ?_)|(with_reducible refine c_skipF ?_)));(refine wpQuiet_nil ?_);clear M;intro w M)
      go_wp2_with (first|(with_reducible (first|refine wq M ?_|(refine wS M ?_;clear M;intro w M)|(refine wV M ?_;clear M;intro z w M)|(refine wR M ?_;clear M;intro q w M))))
      ((refine wp_region_calm M (by kernel_rfl) (by kernel_rfl) ?_);(repeat(first|((with_reducible refine c_list rfl fun K hK=>?_);(first|(refine c_load (l' :=?_) ⟨_,M⟩ (fun w M=>?_) ?_;rotate_left;focus((first|(refine q_cellat (HK2.out _ M.new) ?_)|refine q_get M (by exact rfl) ?_|refine q_all M (by rfl) ?_|refine q_prt M (by rfl) ?_);refine⟨rfl,?_⟩;with_reducible rfl))|(refine c_call (n:=81) (args:=?_) (v:=?_) (fun w=>?_) (fun w M=>?_) ?_;rotate_left 2;(focus(go_simp;try with_reducible rfl));(focus(with_reducible refine(HPR2.out _ M.new).mono ?_;rintro e w5 ⟨rfl,hb5⟩;refine⟨?_,M.below hb5⟩;with_reducible rfl)))|(refine c_pure (v:=?_) (fun w=>?_) ?_;rotate_left;focus(go_simp;try with_reducible rfl)));(try go_simp);with_reducible refine hK _ ?_;clear hK K)|((with_reducible refine c_listg fun K hK=>?_);(first|(refine c_load (l' :=?_) ⟨_,M⟩ (fun w M=>?_) ?_;rotate_left;focus((first|(refine q_cellat (HK2.out _ M.new) ?_)|refine q_get M (by exact rfl) ?_|refine q_all M (by rfl) ?_|refine q_prt M (by rfl) ?_);refine⟨rfl,?_⟩;with_reducible rfl))|(refine c_call (n:=81) (args:=?_) (v:=?_) (fun w=>?_) (fun w M=>?_) ?_;rotate_left 2;(focus(go_simp;try with_reducible rfl));(focus(with_reducible refine(HPR2.out _ M.new).mono ?_;rintro e w5 ⟨rfl,hb5⟩;refine⟨?_,M.below hb5⟩;with_reducible rfl)))|(refine c_pure (v:=?_) (fun w=>?_) ?_;rotate_left;focus(go_simp;try with_reducible rfl)));(try go_simp);with_reducible refine hK _ ?_;clear hK K)|(with_reducible refine c_skipT ?_)|(with_reducible refine c_skipF ?_)));(refine wpQuiet_nil ?_);clear M;intro w M)
      go_wp2_with (first|(with_reducible (first|refine wq M ?_|(refine wS M ?_;clear M;intro w M)|(refine wV M ?_;clear M;intro z w M)|(refine wR M ?_;clear M;intro q w M))))
      ((refine wp_region_calm M (by kernel_rfl) (by kernel_rfl) ?_);(repeat(first|((with_reducible refine c_list rfl fun K hK=>?_);(first|(refine c_load (l' :=?_) ⟨_,M⟩ (fun w M=>?_) ?_;rotate_left;focus((first|refine q_get M (by exact rfl) ?_|refine q_all M (by rfl) ?_|refine q_prt M (by rfl) ?_);refine⟨rfl,?_⟩;with_reducible rfl))|(refine c_pure (v:=?_) (fun w=>?_) ?_;rotate_left;focus(go_simp;try with_reducible rfl)));(try go_simp);with_reducible refine hK _ ?_;clear hK K)|((with_reducible refine c_listg fun K hK=>?_);(first|(refine c_load (l' :=?_) ⟨_,M⟩ (fun w M=>?_) ?_;rotate_left;focus((first|refine q_get M (by exact rfl) ?_|refine q_all M (by rfl) ?_|refine q_prt M (by rfl) ?_);refine⟨rfl,?_⟩;with_reducible rfl))|(refine c_pure (v:=?_) (fun w=>?_) ?_;rotate_left;focus(go_simp;try with_reducible rfl)));(try go_simp);with_reducible refine hK _ ?_;clear hK K)|(with_reducible refine c_skipT ?_)|(with_reducible refine c_skipF ?_)));(refine wpQuiet_nil ?_);clear M;intro w M)
      go_wp2_with (first|(with_reducible (first|refine wq M ?_|(refine wS M ?_;clear M;intro w M)|(refine wV M ?_;clear M;intro z w M)|(refine wR M ?_;clear M;intro q w M))))
      go_roundg (m4 - (j+1))
      case measure=>omega
      case rel=>exact⟨j+1,by omega,by go_num,M,HN⟩
    ·have HNL:Hid (NoB R.links (fun k=>!oldL R.whens l k) R.links.length):=by
      have e:j=R.links.length:=by have:=NY.out;omega
      exact e▸HB.out
     have hlB:=lastE_ge (l:=l) (fun x hx=>(spanE_zero (HSP.out x hx)).2.1)
     have HSL:Hid (∀ x∈l,0≤x.e.stop∧x.e.stop≤1099511627776):=fun x hx=>(spanE_zero (HSP.out x hx)).2.1
     clear HB H2
     generalize lastE l=last at H3 H4 HLE hlB
     go_wp2_with (first|(with_reducible (first|refine wq M ?_|(refine wS M ?_;clear M;intro w M)|(refine wV M ?_;clear M;intro z w M)|(refine wR M ?_;clear M;intro q w M))))
     go_loopg [15] v.n3 (fun f i wr=> ∃ (j:Nat),j+f=v.n3∧i= .int .i64 j∧Mem (StaysB g w0) g w0 wr ⟨0,0⟩ (own za [.string R.name,.slice b1 m1 e1,.slice b2 m2 e2,.slice b3 m3 e3,.slice b4 m4 e4,.string R.etype,.slice b6 m6 e6] 60::[])∧Hid (∀ i (hw:i<R.whens.length) (hi:i<l.length),i<j→winB last top all R.whens[i] l[i]=true))
     case atStart=>exact⟨0,by omega,rfl,M,fun i _ _ h=>absurd h (Nat.not_lt_zero i)⟩
     case round=>
      clear M
      obtain⟨i,hi,rfl,M,HB⟩:=hrel
      by_cases hlt3:i<v.n3
      ·have hil:i<l.length:=by have:=NX.out;omega
       have hiw:i<R.whens.length:=by have:=HLW.out;omega
       obtain⟨cx,ox,rowx,hixx, -,hrrx,hwx⟩:=SlF.rowAt (P:=Tryz.prog) HX.out eveF_firm Tryz.underlying26 size_eve (i:=i) hil
       obtain⟨px,qx,rx,ex,ux⟩:=hrrx
       subst ex
       have HXN:Hid (∀ wx,Below w0.heap.size w0 wx→wx.cell? ⟨cx,ox,none⟩=some (.int .i64 l[i].e.number)):=fun wx hb=>(hwx wx hb).1 0 _ rfl
       have HXT:Hid (∀ wx,Below w0.heap.size w0 wx→wx.cell? ⟨cx,ox+1,none⟩=some (.int .i64 l[i].e.type)):=fun wx hb=>(hwx wx hb).1 1 _ rfl
       have HXS:Hid (∀ wx,Below w0.heap.size w0 wx→wx.cell? ⟨cx,ox+2+1,none⟩=some (.int .i64 l[i].e.stop)):=fun wx hb=>(hwx wx hb).1 3 _ rfl
       have HXS2:Hid (∀ wx,Below w0.heap.size w0 wx→wx.cell? ⟨cx,ox+3,none⟩=some (.int .i64 l[i].e.stop)):=fun wx hb=>(hwx wx hb).1 3 _ rfl
       obtain⟨cp,op,rowp,hixp, -,hrrp,hwp⟩:=SlF.rowAt (P:=Tryz.prog) HW.out patF_firm Tryz.underlying53 size_pat (i:=i) hiw
       obtain⟨so,sn,sc,ep,up⟩:=hrrp
       subst ep
       have HPW:Hid (∀ wx,Below w0.heap.size w0 wx→wx.cell? ⟨cp,op+16,none⟩=some (.int .i64 R.whens[i].window)):=fun wx hb=>(hwp wx hb).1 16 _ rfl
       have HPX:Hid (∀ wx,Below w0.heap.size w0 wx→wx.cell? ⟨cp,op+17,none⟩=some (.int .i64 R.whens[i].n)):=fun wx hb=>(hwp wx hb).1 17 _ rfl
       have hst:=HSL.out _ (List.getElem_mem hil)
       have H3i:=Lib.hid (H3.out i hiw hil)
       have HB2:Hid (winB last top all R.whens[i] l[i]=true→ ∀ i2 (hw:i2<R.whens.length) (hi:i2<l.length),i2<i+1→winB last top all R.whens[i2] l[i2]=true):=fun h i2 hw2 hi2 hlt4=>by
        by_cases he:i2=i
        ·subst he;exact h
        ·exact HB.out i2 hw2 hi2 (by omega)
       clear hwx hwp ux up HB
       generalize R.whens[i]=P at HPW HPX H3i HB2
       generalize l[i]=x at HXN HXT HXS HXS2 hst H3i HB2
       clear hil hiw
       have hws:IntKind.i64.wrap (last - x.e.stop)=last - x.e.stop:=IntWalk.i64_in _ (by omega)
       go_upto_region 24 with(first|(with_reducible (first|refine wq M ?_|(refine wS M ?_;clear M;intro w M)|(refine wV M ?_;clear M;intro z w M)|(refine wR M ?_;clear M;intro q w M))))
       go_cut [148] (fun vv wx=>vv= .bool (P.window==1&&decide (P.n<last - x.e.stop))∧Mem (StaysB g w0) g w0 wx ⟨0,0⟩ (own za [.string R.name,.slice b1 m1 e1,.slice b2 m2 e2,.slice b3 m3 e3,.slice b4 m4 e4,.string R.etype,.slice b6 m6 e6] 60::[]))
       case first=>
        by_cases hw1:P.window=1
        ·have hb1:(P.window==1)=true:=by simp[hw1]
         rw[hw1]at HPW
         have HB1:=Lib.hid hb1
         clear hw1 hb1
         ((refine wp_region_calm M (by kernel_rfl) (by kernel_rfl) ?_);(repeat(first|((with_reducible refine c_list rfl fun K hK=>?_);(first|(refine c_load (l' :=?_) ⟨_,M⟩ (fun w M=>?_) ?_;rotate_left;focus((first|(refine q_cellat (HPW.out _ M.new) ?_)|(refine q_cellat (HPX.out _ M.new) ?_)|(refine q_cellat (HXS.out _ M.new) ?_)|(refine q_cellat (HXS2.out _ M.new) ?_)|refine q_get M (by exact rfl) ?_|refine q_all M (by rfl) ?_|refine q_prt M (by rfl) ?_);refine⟨rfl,?_⟩;with_reducible rfl))|(refine c_call (n:=52) (args:=?_) (v:=?_) (fun w=>?_) (fun w M=>?_) ?_;rotate_left 2;(focus(go_simp;try with_reducible rfl));(focus(with_reducible refine(HLE.out _ M.new).mono ?_;rintro e w5 ⟨rfl,hb5⟩;refine⟨?_,M.below hb5⟩;with_reducible rfl)))|(refine c_pure (v:=?_) (fun w=>?_) ?_;rotate_left;focus(go_simp;try with_reducible rfl)));(try go_simp);with_reducible refine hK _ ?_;clear hK K)|((with_reducible refine c_listg fun K hK=>?_);(first|(refine c_load (l' :=?_) ⟨_,M⟩ (fun w M=>?_) ?_;rotate_left;focus((first|(refine q_cellat (HPW.out _ M.new) ?_)|(refine q_cellat (HPX.out _ M.new) ?_)|(refine q_cellat (HXS.out _ M.new) ?_)|(refine q_cellat (HXS2.out _ M.new) ?_)|refine q_get M (by exact rfl) ?_|refine q_all M (by rfl) ?_|refine q_prt M (by rfl) ?_);refine⟨rfl,?_⟩;with_reducible rfl))|(refine c_call (n:=52) (args:=?_) (v:=?_) (fun w=>?_) (fun w M=>?_) ?_;rotate_left 2;(focus(go_simp;try with_reducible rfl));(focus(with_reducible refine(HLE.out _ M.new).mono ?_;rintro e w5 ⟨rfl,hb5⟩;refine⟨?_,M.below hb5⟩;with_reducible rfl)))|(refine c_pure (v:=?_) (fun w=>?_) ?_;rotate_left;focus(go_simp;try with_reducible rfl)));(try go_simp);with_reducible refine hK _ ?_;clear hK K)|(with_reducible refine c_skipT ?_)|(with_reducible refine c_skipF ?_)));(refine wpQuiet_nil ?_);clear M;intro w M)
         go_wp2_with (first|(with_reducible (first|refine wq M ?_|(refine wS M ?_;clear M;intro w M)|(refine wV M ?_;clear M;intro z w M)|(refine wR M ?_;clear M;intro q w M))))
         go_meet
         case rel=>exact⟨by rw[HB1.out];simp,M⟩
        ·have hb1:(P.window==1)=false:=by simp[hw1]
         have HB1:=Lib.hid hb1
         ((refine wp_region_calm M (by kernel_rfl) (by kernel_rfl) ?_);(repeat(first|((with_reducible refine c_list rfl fun K hK=>?_);(first|(refine c_load (l' :=?_) ⟨_,M⟩ (fun w M=>?_) ?_;rotate_left;focus((first|(refine q_cellat (HPW.out _ M.new) ?_)|(refine q_cellat (HPX.out _ M.new) ?_)|(refine q_cellat (HXS.out _ M.new) ?_)|(refine q_cellat (HXS2.out _ M.new) ?_)|refine q_get M (by exact rfl) ?_|refine q_all M (by rfl) ?_|refine q_prt M (by rfl) ?_);refine⟨rfl,?_⟩;with_reducible rfl))|(refine c_call (n:=52) (args:=?_) (v:=?_) (fun w=>?_) (fun w M=>?_) ?_;rotate_left 2;(focus(go_simp;try with_reducible rfl));(focus(with_reducible refine(HLE.out _ M.new).mono ?_;rintro e w5 ⟨rfl,hb5⟩;refine⟨?_,M.below hb5⟩;with_reducible rfl)))|(refine c_pure (v:=?_) (fun w=>?_) ?_;rotate_left;focus(go_simp;try with_reducible rfl)));(try go_simp);with_reducible refine hK _ ?_;clear hK K)|((with_reducible refine c_listg fun K hK=>?_);(first|(refine c_load (l' :=?_) ⟨_,M⟩ (fun w M=>?_) ?_;rotate_left;focus((first|(refine q_cellat (HPW.out _ M.new) ?_)|(refine q_cellat (HPX.out _ M.new) ?_)|(refine q_cellat (HXS.out _ M.new) ?_)|(refine q_cellat (HXS2.out _ M.new) ?_)|refine q_get M (by exact rfl) ?_|refine q_all M (by rfl) ?_|refine q_prt M (by rfl) ?_);refine⟨rfl,?_⟩;with_reducible rfl))|(refine c_call (n:=52) (args:=?_) (v:=?_) (fun w=>?_) (fun w M=>?_) ?_;rotate_left 2;(focus(go_simp;try with_reducible rfl));(focus(with_reducible refine(HLE.out _ M.new).mono ?_;rintro e w5 ⟨rfl,hb5⟩;refine⟨?_,M.below hb5⟩;with_reducible rfl)))|(refine c_pure (v:=?_) (fun w=>?_) ?_;rotate_left;focus(go_simp;try with_reducible rfl)));(try go_simp);with_reducible refine hK _ ?_;clear hK K)|(with_reducible refine c_skipT ?_)|(with_reducible refine c_skipF ?_)));(refine wpQuiet_nil ?_);clear M;intro w M)
         go_wp2_with (first|(with_reducible (first|refine wq M ?_|(refine wS M ?_;clear M;intro w M)|(refine wV M ?_;clear M;intro z w M)|(refine wR M ?_;clear M;intro q w M))))
         go_meet
         case rel=>exact⟨by rw[HB1.out];simp,M⟩
       case rest=>
       clear M
       obtain⟨rfl,M⟩:=hcut
       cases hbad:(P.window==1&&decide (P.n<last - x.e.stop))with
       |true=>
        have HV:=Lib.hid (H3i.out (by
         simp only[Bool.and_eq_true,beq_iff_eq,decide_eq_true_eq]at hbad
         unfold winB
         rw[if_pos hbad.1]
         simp[hbad.2]))
        clear H3i HB2
        go_wp2_with (first|(with_reducible (first|refine wq M ?_|(refine wS M ?_;clear M;intro w M)|(refine wV M ?_;clear M;intro z w M)|(refine wR M ?_;clear M;intro q w M))))
        go_ret
        rw[HV.out]
        exact⟨rfl,M.new⟩
       |false=>
        have HBD:=Lib.hid hbad
        clear hbad
        go_wp2_with (first|(with_reducible (first|refine wq M ?_|(refine wS M ?_;clear M;intro w M)|(refine wV M ?_;clear M;intro z w M)|(refine wR M ?_;clear M;intro q w M))))
        go_loopg [16,17] v.n4 (fun f n ii wr=> ∃ (j:Nat),j+f=v.n4∧n= .int .i64 ((all.take j).countP (newerB x top):Nat)∧ii= .int .i64 j∧Mem (StaysB g w0) g w0 wr ⟨0,0⟩ (own za [.string R.name,.slice b1 m1 e1,.slice b2 m2 e2,.slice b3 m3 e3,.slice b4 m4 e4,.string R.etype,.slice b6 m6 e6] 60::[]))
        case atStart=>exact⟨0,by omega,rfl,rfl,M⟩
        case round=>
         clear M
         obtain⟨j,hj2,rfl,rfl,M⟩:=hrel
         by_cases hlt4:j<v.n4
         ·have hal:j<all.length:=by have:=NA.out;omega
          obtain⟨cy,oy,rowy,hixy, -,hrry,hwy⟩:=SlF.rowAt (P:=Tryz.prog) HA.out eveF_firm Tryz.underlying26 size_eve (i:=j) hal
          obtain⟨py,qy,ry,ey,uy⟩:=hrry
          subst ey
          have HYN:Hid (∀ wx,Below w0.heap.size w0 wx→wx.cell? ⟨cy,oy,none⟩=some (.int .i64 all[j].e.number)):=fun wx hb=>(hwy wx hb).1 0 _ rfl
          have HYT:Hid (∀ wx,Below w0.heap.size w0 wx→wx.cell? ⟨cy,oy+1,none⟩=some (.int .i64 all[j].e.type)):=fun wx hb=>(hwy wx hb).1 1 _ rfl
          have HCS:Hid ((all.take (j+1)).countP (newerB x top)=_):=countP_snoc hal
          have hcl:(all.take j).countP (newerB x top)≤120:=Nat.le_trans (Nat.le_trans (List.countP_le_length ..) (by rw[List.length_take];exact Nat.min_le_left _ _)) (by omega)
          clear hwy uy
          generalize all[j]=y at HYN HYT HCS
          generalize (all.take j).countP (newerB x top)=cn at HCS hcl ⊢
          have hnb:newerB x top y=(y.e.type==x.e.type&&(decide (x.e.number<y.e.number)&&decide (y.e.number≤top))):=rfl
          rw[hnb]at HCS
          clear hnb hal
          by_cases c1:y.e.type=x.e.type
          ·have d1:(y.e.type==x.e.type)=true:=by simp[c1]
           by_cases c2:x.e.number<y.e.number
           ·by_cases c3:y.e.number≤top
            ·have HC:Hid ((all.take (j+1)).countP (newerB x top)=cn+1):=Lib.hid (by rw[HCS.out];simp[c1,c2,c3])
             have d2:decide (x.e.number<y.e.number)=true:=by simp[c2]
             have d3:decide (y.e.number≤top)=true:=by simp[c3]
             clear HCS
             go_wp2_with (first|(with_reducible (first|refine wq M ?_|(refine wS M ?_;clear M;intro w M)|(refine wV M ?_;clear M;intro z w M)|(refine wR M ?_;clear M;intro q w M))))
             ((refine wp_region_calm M (by kernel_rfl) (by kernel_rfl) ?_);(repeat(first|((with_reducible refine c_list rfl fun K hK=>?_);(first|(refine c_load (l' :=?_) ⟨_,M⟩ (fun w M=>?_) ?_;rotate_left;focus((first|(refine q_cellat (HYN.out _ M.new) ?_)|(refine q_cellat (HYT.out _ M.new) ?_)|(refine q_cellat (HXN.out _ M.new) ?_)|(refine q_cellat (HXT.out _ M.new) ?_)|refine q_get M (by exact rfl) ?_|refine q_all M (by rfl) ?_|refine q_prt M (by rfl) ?_);refine⟨rfl,?_⟩;with_reducible rfl))|(refine c_pure (v:=?_) (fun w=>?_) ?_;rotate_left;focus(go_simp;try with_reducible rfl)));(try go_simp);with_reducible refine hK _ ?_;clear hK K)|((with_reducible refine c_listg fun K hK=>?_);(first|(refine c_load (l' :=?_) ⟨_,M⟩ (fun w M=>?_) ?_;rotate_left;focus((first|(refine q_cellat (HYN.out _ M.new) ?_)|(refine q_cellat (HYT.out _ M.new) ?_)|(refine q_cellat (HXN.out _ M.new) ?_)|(refine q_cellat (HXT.out _ M.new) ?_)|refine q_get M (by exact rfl) ?_|refine q_all M (by rfl) ?_|refine q_prt M (by rfl) ?_);refine⟨rfl,?_⟩;with_reducible rfl))|(refine c_pure (v:=?_) (fun w=>?_) ?_;rotate_left;focus(go_simp;try with_reducible rfl)));(try go_simp);with_reducible refine hK _ ?_;clear hK K)|(with_reducible refine c_skipT ?_)|(with_reducible refine c_skipF ?_)));(refine wpQuiet_nil ?_);clear M;intro w M)
             go_wp2_with (first|(with_reducible (first|refine wq M ?_|(refine wS M ?_;clear M;intro w M)|(refine wV M ?_;clear M;intro z w M)|(refine wR M ?_;clear M;intro q w M))))
             go_roundg (v.n4 - (j+1))
             case measure=>omega
             case rel=>exact⟨j+1,by omega,by rw[HC.out];go_num,by go_num,M⟩
            ·have HC:Hid ((all.take (j+1)).countP (newerB x top)=cn):=Lib.hid (by rw[HCS.out];simp[c1,c2,c3])
             have d2:decide (x.e.number<y.e.number)=true:=by simp[c2]
             have d3:decide (y.e.number≤top)=false:=by simp[c3]
             clear HCS
             go_wp2_with (first|(with_reducible (first|refine wq M ?_|(refine wS M ?_;clear M;intro w M)|(refine wV M ?_;clear M;intro z w M)|(refine wR M ?_;clear M;intro q w M))))
             ((refine wp_region_calm M (by kernel_rfl) (by kernel_rfl) ?_);(repeat(first|((with_reducible refine c_list rfl fun K hK=>?_);(first|(refine c_load (l' :=?_) ⟨_,M⟩ (fun w M=>?_) ?_;rotate_left;focus((first|(refine q_cellat (HYN.out _ M.new) ?_)|(refine q_cellat (HYT.out _ M.new) ?_)|(refine q_cellat (HXN.out _ M.new) ?_)|(refine q_cellat (HXT.out _ M.new) ?_)|refine q_get M (by exact rfl) ?_|refine q_all M (by rfl) ?_|refine q_prt M (by rfl) ?_);refine⟨rfl,?_⟩;with_reducible rfl))|(refine c_pure (v:=?_) (fun w=>?_) ?_;rotate_left;focus(go_simp;try with_reducible rfl)));(try go_simp);with_reducible refine hK _ ?_;clear hK K)|((with_reducible refine c_listg fun K hK=>?_);(first|(refine c_load (l' :=?_) ⟨_,M⟩ (fun w M=>?_) ?_;rotate_left;focus((first|(refine q_cellat (HYN.out _ M.new) ?_)|(refine q_cellat (HYT.out _ M.new) ?_)|(refine q_cellat (HXN.out _ M.new) ?_)|(refine q_cellat (HXT.out _ M.new) ?_)|refine q_get M (by exact rfl) ?_|refine q_all M (by rfl) ?_|refine q_prt M (by rfl) ?_);refine⟨rfl,?_⟩;with_reducible rfl))|(refine c_pure (v:=?_) (fun w=>?_) ?_;rotate_left;focus(go_simp;try with_reducible rfl)));(try go_simp);with_reducible refine hK _ ?_;clear hK K)|(with_reducible refine c_skipT ?_)|(with_reducible refine c_skipF ?_)));(refine wpQuiet_nil ?_);clear M;intro w M)
             go_wp2_with (first|(with_reducible (first|refine wq M ?_|(refine wS M ?_;clear M;intro w M)|(refine wV M ?_;clear M;intro z w M)|(refine wR M ?_;clear M;intro q w M))))
             go_roundg (v.n4 - (j+1))
             case measure=>omega
             case rel=>exact⟨j+1,by omega,by rw[HC.out],by go_num,M⟩
           ·have HC:Hid ((all.take (j+1)).countP (newerB x top)=cn):=Lib.hid (by rw[HCS.out];simp[c1,c2])
            have d2:decide (x.e.number<y.e.number)=false:=by simp[c2]
            clear HCS
            go_wp2_with (first|(with_reducible (first|refine wq M ?_|(refine wS M ?_;clear M;intro w M)|(refine wV M ?_;clear M;intro z w M)|(refine wR M ?_;clear M;intro q w M))))
            ((refine wp_region_calm M (by kernel_rfl) (by kernel_rfl) ?_);(repeat(first|((with_reducible refine c_list rfl fun K hK=>?_);(first|(refine c_load (l' :=?_) ⟨_,M⟩ (fun w M=>?_) ?_;rotate_left;focus((first|(refine q_cellat (HYN.out _ M.new) ?_)|(refine q_cellat (HYT.out _ M.new) ?_)|(refine q_cellat (HXN.out _ M.new) ?_)|(refine q_cellat (HXT.out _ M.new) ?_)|refine q_get M (by exact rfl) ?_|refine q_all M (by rfl) ?_|refine q_prt M (by rfl) ?_);refine⟨rfl,?_⟩;with_reducible rfl))|(refine c_pure (v:=?_) (fun w=>?_) ?_;rotate_left;focus(go_simp;try with_reducible rfl)));(try go_simp);with_reducible refine hK _ ?_;clear hK K)|((with_reducible refine c_listg fun K hK=>?_);(first|(refine c_load (l' :=?_) ⟨_,M⟩ (fun w M=>?_) ?_;rotate_left;focus((first|(refine q_cellat (HYN.out _ M.new) ?_)|(refine q_cellat (HYT.out _ M.new) ?_)|(refine q_cellat (HXN.out _ M.new) ?_)|(refine q_cellat (HXT.out _ M.new) ?_)|refine q_get M (by exact rfl) ?_|refine q_all M (by rfl) ?_|refine q_prt M (by rfl) ?_);refine⟨rfl,?_⟩;with_reducible rfl))|(refine c_pure (v:=?_) (fun w=>?_) ?_;rotate_left;focus(go_simp;try with_reducible rfl)));(try go_simp);with_reducible refine hK _ ?_;clear hK K)|(with_reducible refine c_skipT ?_)|(with_reducible refine c_skipF ?_)));(refine wpQuiet_nil ?_);clear M;intro w M)
            go_wp2_with (first|(with_reducible (first|refine wq M ?_|(refine wS M ?_;clear M;intro w M)|(refine wV M ?_;clear M;intro z w M)|(refine wR M ?_;clear M;intro q w M))))
            go_roundg (v.n4 - (j+1))
            case measure=>omega
            case rel=>exact⟨j+1,by omega,by rw[HC.out],by go_num,M⟩
          ·have d1:(y.e.type==x.e.type)=false:=by simp[c1]
           have HC:Hid ((all.take (j+1)).countP (newerB x top)=cn):=Lib.hid (by rw[HCS.out];simp[c1])
           clear HCS
           go_wp2_with (first|(with_reducible (first|refine wq M ?_|(refine wS M ?_;clear M;intro w M)|(refine wV M ?_;clear M;intro z w M)|(refine wR M ?_;clear M;intro q w M))))
           ((refine wp_region_calm M (by kernel_rfl) (by kernel_rfl) ?_);(repeat(first|((with_reducible refine c_list rfl fun K hK=>?_);(first|(refine c_load (l' :=?_) ⟨_,M⟩ (fun w M=>?_) ?_;rotate_left;focus((first|(refine q_cellat (HYN.out _ M.new) ?_)|(refine q_cellat (HYT.out _ M.new) ?_)|(refine q_cellat (HXN.out _ M.new) ?_)|(refine q_cellat (HXT.out _ M.new) ?_)|refine q_get M (by exact rfl) ?_|refine q_all M (by rfl) ?_|refine q_prt M (by rfl) ?_);refine⟨rfl,?_⟩;with_reducible rfl))|(refine c_pure (v:=?_) (fun w=>?_) ?_;rotate_left;focus(go_simp;try with_reducible rfl)));(try go_simp);with_reducible refine hK _ ?_;clear hK K)|((with_reducible refine c_listg fun K hK=>?_);(first|(refine c_load (l' :=?_) ⟨_,M⟩ (fun w M=>?_) ?_;rotate_left;focus((first|(refine q_cellat (HYN.out _ M.new) ?_)|(refine q_cellat (HYT.out _ M.new) ?_)|(refine q_cellat (HXN.out _ M.new) ?_)|(refine q_cellat (HXT.out _ M.new) ?_)|refine q_get M (by exact rfl) ?_|refine q_all M (by rfl) ?_|refine q_prt M (by rfl) ?_);refine⟨rfl,?_⟩;with_reducible rfl))|(refine c_pure (v:=?_) (fun w=>?_) ?_;rotate_left;focus(go_simp;try with_reducible rfl)));(try go_simp);with_reducible refine hK _ ?_;clear hK K)|(with_reducible refine c_skipT ?_)|(with_reducible refine c_skipF ?_)));(refine wpQuiet_nil ?_);clear M;intro w M)
           go_wp2_with (first|(with_reducible (first|refine wq M ?_|(refine wS M ?_;clear M;intro w M)|(refine wV M ?_;clear M;intro z w M)|(refine wR M ?_;clear M;intro q w M))))
           go_roundg (v.n4 - (j+1))
           case measure=>omega
           case rel=>exact⟨j+1,by omega,by rw[HC.out],by go_num,M⟩
         ·have hje:(all.take j).countP (newerB x top)=newerN all x top:=by unfold newerN;rw[List.take_of_length_le (by have:=NA.out;omega)]
          rw[hje]
          clear hje
          by_cases hw2:P.window=2
          ·have hb2:(P.window==2)=true:=by simp[hw2]
           have hwb:winB last top all P x=!decide (P.n≤newerN all x top):=by unfold winB;rw[if_neg (by rw[hw2];decide),if_pos hw2]
           rw[hwb]at H3i HB2
           rw[hw2]at HPW
           clear hwb hw2 hb2 HBD
           generalize newerN all x top=cn at H3i HB2 ⊢
           by_cases hn:P.n≤cn
           ·have HV:=Lib.hid (H3i.out (by simp[hn]))
            clear H3i HB2
            go_wp2_with (first|(with_reducible (first|refine wq M ?_|(refine wS M ?_;clear M;intro w M)|(refine wV M ?_;clear M;intro z w M)|(refine wR M ?_;clear M;intro q w M)|refine wC (HPW.out _ M.new) ?_))|(with_reducible refine wCg (HPX.out _ M.new) ?_))
            go_ret
            rw[HV.out]
            exact⟨rfl,M.new⟩
           ·have HN:=Lib.hid (HB2.out (by simp[hn]))
            clear H3i HB2
            go_wp2_with (first|(with_reducible (first|refine wq M ?_|(refine wS M ?_;clear M;intro w M)|(refine wV M ?_;clear M;intro z w M)|(refine wR M ?_;clear M;intro q w M)|refine wC (HPW.out _ M.new) ?_))|(with_reducible refine wCg (HPX.out _ M.new) ?_))
            go_roundg (v.n3 - (i+1))
            case measure=>omega
            case rel=>exact⟨i+1,by omega,by go_num,M,HN⟩
          ·have hb2:(P.window==2)=false:=by simp[hw2]
           have HN:=Lib.hid (HB2.out (by
            unfold winB
            by_cases h1:P.window=1
            ·have:=HBD.out
             rw[if_pos h1]
             rw[h1]at this
             simpa using this
            ·rw[if_neg h1,if_neg hw2]))
           clear H3i HB2 HBD
           go_wp2_with (first|(with_reducible (first|refine wq M ?_|(refine wS M ?_;clear M;intro w M)|(refine wV M ?_;clear M;intro z w M)|(refine wR M ?_;clear M;intro q w M)|refine wC (HPW.out _ M.new) ?_))|(with_reducible refine wCg (HPX.out _ M.new) ?_))
           go_roundg (v.n3 - (i+1))
           case measure=>omega
           case rel=>exact⟨i+1,by omega,by go_num,M,HN⟩
      ·have HV:=Lib.hid (H4.out HOA.out HNL.out fun i2 h1 h2=>HB.out i2 h1 h2 (by have:=NX.out;omega))
       clear HB
       go_wp2_with (first|(with_reducible (first|refine wq M ?_|(refine wS M ?_;clear M;intro w M)|(refine wV M ?_;clear M;intro z w M)|(refine wR M ?_;clear M;intro q w M))))
       go_ret
       rw[HV.out]
       exact⟨rfl,M.new⟩
end
end Go.Proofs.YtfahleafppfkaaaGreatDoor
