/-
  The tuples of a rule, told by the reference. Printed by jtu.py.
-/
import Derived.Test.YtfahleafppfkaaaGreatDoorJuE
import Derived.Test.YtfahleafppfkaaaGreatDoorJuF
namespace Go.Proofs.YtfahleafppfkaaaGreatDoor
open Go.RowKit
set_option linter.unusedVariables false
set_option linter.unusedSimpArgs false
structure Tu (w:World) (v:GA) (b1:Option Addr) (m1 e1:Nat) (b4:Option Addr) (m4 e4:Nat) (b:Bok) (R:Rul) (all:List Eve):Prop where
 pos: ∃ g,g<w.heap.size
 types:SlF (fun _=>True) w 2 typF v.a1 v.n1 v.c1 b.types
 whens:SlF (fun _=>True) w 18 patF b1 m1 e1 R.whens
 links:SlF (fun _=>True) w 3 lnkF b4 m4 e4 R.links
 alls:SlF (under w.heap.size) w 5 eveF v.a4 v.n4 v.c4 all
 okT: ∀ t∈b.types,typOk t
 book:bookE b=0
 is: ∃ r:Nat,b.rules[r]?=some R
 evA: ∀ x∈all,eventE b.types x.e x.vals=0
 fewA:all.length≤120
section
variable {w0:World} {v:GA} {b1 b2 b3 b4 b6:Option Addr} {m1 e1 m2 e2 m3 e3 m4 e4 m6 e6:Nat} {b:Bok} {R:Rul} {all:List Eve}
theorem Tu.below{w' :World}(h:Tu w0 v b1 m1 e1 b4 m4 e4 b R all)(hb:Below w0.heap.size w0 w'):Tu w' v b1 m1 e1 b4 m4 e4 b R all:=
 {h with
  pos:=h.pos.elim fun g hg=>⟨g,Nat.lt_of_lt_of_le hg hb.size⟩
  types:=h.types.below typF_firm hb
  whens:=h.whens.below patF_firm hb
  links:=h.links.below lnkF_firm hb
  alls:=(h.alls.below eveF_firm hb).wide eveF_firm (fun b hb2 _=>Nat.lt_of_lt_of_le hb2 hb.size)}
theorem Tu.zero(h:Tu w0 v b1 m1 e1 b4 m4 e4 b R all):ruleE b.types R=0:=by
 obtain⟨r,hr⟩:=h.is
 obtain⟨h1,h2⟩:=List.getElem?_eq_some_iff.1 hr
 have:=rule_zero h.book h1
 rwa[h2]at this
def nameI(ts:List Typ)(wh:List Pat)(l:List Eve)(i:Nat):Bool:=sameS (evT ts (l.getD i default)).name (wh.getD i pat0).type
theorem names_range{ts:List Typ}{wh:List Pat}{l:List Eve}(h:l.length=wh.length):namesB ts wh l=(List.range l.length).all (nameI ts wh l):=by
 rw[Bool.eq_iff_iff]
 unfold namesB
 rw[List.all_eq_true,List.all_eq_true]
 constructor
 ·intro hz i hi
  have hi' :=List.mem_range.1 hi
  have hzl:i<(wh.zip l).length:=by rw[List.length_zip];omega
  have:=hz _ (List.getElem_mem hzl)
  rw[List.getElem_zip]at this
  unfold nameI
  simpa[List.getD,List.getElem?_eq_getElem hi',List.getElem?_eq_getElem (show i<wh.length by omega)]using this
 ·intro hz z hzz
  obtain⟨i,hi,rfl⟩:=List.mem_iff_getElem.1 hzz
  have hi' :=hi
  rw[List.length_zip]at hi'
  have:=hz i (List.mem_range.2 (by omega))
  unfold nameI at this
  rw[List.getElem_zip]
  simpa[List.getD,List.getElem?_eq_getElem (show i<l.length by omega),List.getElem?_eq_getElem (show i<wh.length by omega)]using this
theorem all_range_snoc{f:Nat→Bool}{h:Nat}:(List.range (h+1)).all f=((List.range h).all f&&f h):=by
 rw[List.range_succ,List.all_append]
 simp
theorem teamsL_in(m:Nat): ∀ n l,l∈teamsL m n→l.length=n∧ ∀ x∈l,x<m
 |0,l,h=>by
  have:l=[]:=by simpa[teamsL]using h
  subst this;simp
 |n+1,l,h=>by
  obtain⟨k,h1,h2⟩:=List.mem_flatMap.1 h
  obtain⟨j,h3,rfl⟩:=List.mem_map.1 h2
  obtain⟨h4,h5⟩:=teamsL_in m n k h1
  refine⟨by simp[h4],fun y hy=>?_⟩
  rcases List.mem_append.1 hy with hy|hy
  ·exact h5 y hy
  ·rw[List.mem_singleton.1 hy]
   exact List.mem_range.1 h3
theorem flatN_snoc{α β:Type}{f:β→List α}{k:Nat}{L:List β}(h:k<L.length):(L.take (k+1)).flatMap f=(L.take k).flatMap f++f L[k]:=by
 rw[List.take_add_one,List.getElem?_eq_getElem h,List.flatMap_append]
 simp
theorem told_le(ts:List Typ)(k:Nat)(L:List (List Nat)):((L.take k).flatMap (toldL ts R all)).length≤L.length:=by
 have: ∀ l:List (List Nat),(l.flatMap (toldL ts R all)).length≤l.length:=fun l=>by
  induction l with
  |nil=>simp
  |cons x l ih=>
   rw[List.flatMap_cons,List.length_append,List.length_cons]
   have:(toldL ts R all x).length≤1:=by unfold toldL;split<;>simp
   omega
 exact Nat.le_trans (this _) (by rw[List.length_take];omega)
theorem raw_cell{g:Nat}{u w:World}{s:PS}{L:List Ent}{e i k c o n:Nat}{rows:List (List Value)}{ao:Option Addr}{cap:Nat}(M:Mem (StaysB g u) g u w s L)(hi:L[i]?=some (slc u.heap.size e 5 rawF (.slice ao n cap) rows))(hk:k<rows.length)
  (hix: ∀ wx,(Instr.indexAt 26 (.slice ao n cap) (.int .i64 k)).run Tryz.prog wx= .ok (.pointer (some ⟨c,o,none⟩)) wx):w.rangeAt c o rows[k]:=by
 obtain⟨c2,o2,row2,hix2, -,hrr2,hw2⟩:=SlF.rowAt (P:=Tryz.prog) (M.slf rawF_firm hi (by omega)) rawF_firm Tryz.underlying26 size_eve (i:=k) hk
 have e1:=(hix w).symm.trans (hix2 w)
 injection e1 with e2 e3
 injection e2 with e4
 injection e4 with e5
 injection e5 with e6 e7
 subst e6 e7
 have e8:row2=rows[k]:=hrr2
 rw[←e8]
 exact(hw2 w (Below.refl _ _)).1
set_option maxRecDepth 8000 in
set_option maxHeartbeats 16000000 in
theorem tuplesOf_any(G:Tu w0 v b1 m1 e1 b4 m4 e4 b R all):
  Calls Tryz.prog 22 #[.slice v.a1 v.n1 v.c1,.agg (rulC R (.slice b1 m1 e1) (.slice b2 m2 e2) (.slice b3 m3 e3) (.slice b4 m4 e4) (.slice b6 m6 e6)).toArray,.slice v.a4 v.n4 v.c4] w0 fun e w' => ∃ ao n cap,e= .returned (.slice ao n cap)∧Below w0.heap.size w0 w' ∧SlF (fun _=>True) w' 1 nsF ao n cap (tuplesL b.types R all):=by
 obtain⟨g,hg⟩:=G.pos
 have M:=Mem.begin hg ⟨0,0⟩
 have NW:=G.whens.len
 subst NW
 have NA:v.n4=all.length:=G.alls.len
 have hw3:R.whens.length≤3:=(rule_few G.zero).1
 have hleW:=G.whens.le
 have hA:=G.fewA
 have HTM:Hid (∀ wx,Below w0.heap.size w0 wx→Calls Tryz.prog 39 #[.int .i64 R.whens.length,.int .i64 v.n4] wx fun e w' => ∃ ao c,e= .returned (.slice ao (teamsI v.n4 R.whens.length).length c)∧Below wx.heap.size wx w' ∧SlF (fun _=>True) w' 1 nsF ao (teamsI v.n4 R.whens.length).length c (teamsI v.n4 R.whens.length)):=fun wx hb=>teams_any (Nat.lt_of_lt_of_le hg hb.size) _ _ hw3 (by omega)
 have HTL:Hid (tuplesL b.types R all=(teamsL v.n4 R.whens.length).flatMap (toldL b.types R all)):=by show _=_;unfold tuplesL;rw[NA]
 have HGG:=Lib.hid G
 have HNA:=Lib.hid NA
 have hleA:v.n4≤120:=by omega
 unfold rulC
 clear G NA hA
 generalize tuplesL b.types R all=TT at HTL ⊢
 go_enter Tryz.func22,Tryz.ntmps22
 go_upto_region 3 with(first|(with_reducible (first|(refine wB (L:=[]) M ?_;clear M;intro za w1 M)|refine wq M ?_))|(go_at_call 39;with_reducible refine(HTM.out _ M.new).mono ?_;rintro e w5 ⟨ta,tc,rfl,hb5,hS5⟩;replace M:=M.below hb5;clear hb5))
 have HW5:=Lib.hid M.new
 have HZ:=Lib.hid (keep_range (M.lt0 (i:=0) rfl) (M.cells_ (i:=0) rfl))
 have hg5:g<w5.heap.size:=Nat.lt_of_lt_of_le hg HW5.out.size
 have G5:=HGG.out.below HW5.out
 clear M HTM HGG hg
 have M:=Mem.begin hg5 ⟨0,0⟩
 rw[teamsI_eq]at hS5 ⊢
 have hS5l:=hS5.le
 have hTN:(teamsL v.n4 R.whens.length).length≤1728000:=by
  have h1:=teamsI_len v.n4 R.whens.length
  rw[teamsI_eq,List.length_map]at h1
  rw[h1]
  exact Nat.le_trans (Nat.pow_le_pow_left hleA _) (Nat.le_trans (Nat.pow_le_pow_right (by omega) hw3) (by decide))
 rw[List.length_map]at hS5 hS5l ⊢
 have HS5:=Lib.hid hS5
 have HTI:Hid (∀ t∈teamsL v.n4 R.whens.length,t.length=R.whens.length∧ ∀ x∈t,x<v.n4):=fun t ht=>teamsL_in _ _ t ht
 have HTA:=Lib.hid G5.types
 have HWA:=Lib.hid G5.whens
 have HAA:=Lib.hid G5.alls
 have HEA:=Lib.hid G5.evA
 have HNC:Hid (∀ (t:List Nat),t.length=R.whens.length→(pickL all t).length=R.whens.length):=fun t ht=>by unfold pickL;rw[List.length_map];exact ht
 have HTG:Hid (∀ wx (ao:Option Addr) (n cap:Nat) (l:List Eve),Below w5.heap.size w5 wx→SlF (under wx.heap.size) wx 5 eveF ao n cap l→l.length=R.whens.length→(∀ x∈l,x∈all)→namesB b.types R.whens l=true→Calls Tryz.prog 40 #[.slice v.a1 v.n1 v.c1,.agg #[.string R.name,.slice b1 R.whens.length e1,.slice b2 m2 e2,.slice b3 m3 e3,.slice b4 m4 e4,.string R.etype,.slice b6 m6 e6],.slice ao n cap,.slice v.a4 v.n4 v.c4] wx fun e w' =>e= .returned (.bool (togB b.types R all l))∧Below wx.heap.size wx w'):=fun wx ao n cap l hb hS hl hsub hn=>by
  have G6:=G5.below hb
  refine together_any (v:=⟨v.a1,v.n1,v.c1,v.a2,v.n2,v.c2,ao,n,cap,v.a4,v.n4,v.c4⟩) ⟨G6.pos,G6.types,G6.whens,G6.links,hS.wide eveF_firm (fun _ _ _=>trivial),G6.alls.wide eveF_firm (fun _ _ _=>trivial),G6.okT,G6.book,G6.is,hl,fun i hi=>?_,fun x hx=>G6.evA x (hsub x hx),G6.fewA⟩
  rw[names_range hl,List.all_eq_true]at hn
  have:=hn i (List.mem_range.2 hi)
  unfold misE
  unfold nameI at this
  rw[if_pos this]
 generalize hTE:teamsL v.n4 R.whens.length=TE at HTI hTN hS5 hS5l HS5 HTL ⊢
 clear hTE G5 hS5
 replace M:=M.none_ (R:=nsF) nsF_firm 36 1
 go_wp2_with (with_reducible (first|refine wq M ?_|(refine wS M ?_;clear M;intro w M)|(refine wV M ?_;clear M;intro z w M)|(refine wR M ?_;clear M;intro q w M)))
 go_loopg [7,9] TE.length (fun f vv i wr=> ∃ (j:Nat) (NL:List (List Int)) (ra:Option Addr) (rc:Nat),j+f=TE.length∧vv= .slice ra NL.length rc∧i= .int .i64 j∧Mem (StaysB g w5) g w5 wr ⟨0,0⟩ (slc w5.heap.size 36 1 nsF (.slice ra NL.length rc) NL::[])∧Hid (NL=(TE.take j).flatMap (toldL b.types R all)))
 case atStart=>exact⟨0,[],none,0,by omega,rfl,rfl,M,Lib.hid rfl⟩
 case round=>
  clear M
  obtain⟨i,NL,oa,oc,hi,rfl,rfl,M,HN⟩:=hrel
  by_cases hit:i<TE.length
  ·have hTI:=HTI.out _ (List.getElem_mem hit)
   have hIm:i<(TE.map fun t:List Nat=>t.map fun j:Nat=>(j:Int)).length:=by rw[List.length_map];exact hit
   obtain⟨ck,ok,rowk,hixk, -,hrrk,hwk⟩:=SlF.rowAt (P:=Tryz.prog) HS5.out nsF_firm Tryz.underlying27 size_ints (i:=i) hIm
   obtain⟨ka,kn,kc,ek,hK⟩:=hrrk
   subst ek
   rw[List.getElem_map]at hK
   have hkn:=hK.len
   rw[List.length_map]at hkn
   subst hkn
   have HK:=Lib.hid (fun wx hb=>(hwk wx hb).1 0 _ rfl)
   have HKK:=Lib.hid hK
   have hkle:=hK.le
   have HFS:Hid ((TE.take (i+1)).flatMap (toldL b.types R all)=NL++toldL b.types R all TE[i]):=by show _=_;rw[flatN_snoc hit,HN.out]
   have hnl:Hid (NL.length≤100000000):=by
    show _≤_
    rw[HN.out]
    exact Nat.le_trans (told_le b.types i TE) (by omega)
   clear hwk HN hK
   generalize TE[i]=t at hTI HKK HFS hkle HK
   have HTT:=Lib.hid hTI
   obtain⟨htl, -⟩:=hTI
   have ht3:t.length≤3:=by omega
   replace M:=(M.none_ (R:=rawF) rawF_firm 65 5).none_ (R:=intF) (plainF_firm _) 3 1
   have HTLN:=Lib.hid htl
   clear htl
   go_wp2_with (with_reducible (first|refine wq M ?_|(refine wS M ?_;clear M;intro w M)|(refine wV M ?_;clear M;intro z w M)|(refine wR M ?_;clear M;intro q w M)))
   go_loopg [10,11,12] t.length (fun f v1 v2 ii wr=> ∃ (h:Nat) (rows:List (List Value)) (nl:List Int) (ra rb:Option Addr) (rc rd:Nat),h+f=t.length∧v1= .slice ra rows.length rc∧v2= .slice rb nl.length rd∧ii= .int .i64 h∧Mem (StaysB g w5) g w5 wr ⟨0,0⟩ (slc w5.heap.size 3 1 intF (.slice rb nl.length rd) nl::slc w5.heap.size 65 5 rawF (.slice ra rows.length rc) rows::slc w5.heap.size 36 1 nsF (.slice oa NL.length oc) NL::[])∧Hid (Rws w5 rows ((pickL all t).take h)∧nl=numsE ((pickL all t).take h)))
   case atStart=>exact⟨0,[],[],none,none,0,0,by omega,rfl,rfl,rfl,M,Lib.hid ⟨Rws.nil,rfl⟩⟩
   case round=>
    clear M
    obtain⟨h,rows,nl,ra,rb,rc,rd,hh,rfl,rfl,rfl,M,HP⟩:=hrel
    have hPL:(pickL all t).length=t.length:=by unfold pickL;rw[List.length_map]
    by_cases hlt:h<t.length
    ·have hrl:Hid (rows.length≤100000):=by show _≤_;rw[HP.out.1.1,List.length_take];omega
     have hnll:Hid (nl.length≤100000):=by show _≤_;rw[HP.out.2];unfold numsE;rw[List.length_map,List.length_take];omega
     have hlm:h<(t.map fun j:Nat=>(j:Int)).length:=by rw[List.length_map];exact hlt
     obtain⟨ch,oh,rowh,hixh, -,hrrh,hwh⟩:=SlF.rowAt (P:=Tryz.prog) HKK.out (plainF_firm _) Tryz.underlying36 size_int (i:=h) hlm
     have eh:rowh=[.int .i64 (t[h]:Nat)]:=by
      have:rowh=[.int .i64 (t.map fun j:Nat=>(j:Int))[h]]:=hrrh
      rw[List.getElem_map]at this
      exact this
     subst eh
     have HH:=Lib.hid (fun wx hb=>(hwh wx hb).1 0 _ rfl)
     have hxa:t[h]<all.length:=by have:=HTT.out.2 _ (List.getElem_mem hlt);have:=HNA.out;omega
     obtain⟨cx,ox,rowx,hixx, -,hrrx,hwx⟩:=SlF.rowAt (P:=Tryz.prog) HAA.out eveF_firm Tryz.underlying26 size_eve (i:=t[h]) hxa
     have HEV:=Lib.hid hrrx
     obtain⟨px,qx,rx,ex,ux⟩:=hrrx
     subst ex
     have HXR:=Lib.hid (fun wx hb=>(hwx wx hb).1)
     have HXN:Hid (∀ wx,Below w5.heap.size w5 wx→wx.cell? ⟨cx,ox,none⟩=some (.int .i64 all[t[h]].e.number)):=fun wx hb=>(hwx wx hb).1 0 _ rfl
     have hpk:(pickL all t)[h]'(by rw[hPL];exact hlt)=all[t[h]]:=by
      unfold pickL
      rw[List.getElem_map]
      simp[List.getD,List.getElem?_eq_getElem hxa]
     have hts:(pickL all t).take (h+1)=(pickL all t).take h++[all[t[h]]]:=by
      rw[List.take_add_one,List.getElem?_eq_getElem (by rw[hPL];exact hlt),hpk]
      rfl
     have HPS:Hid (Rws w5 (rows++[[.int .i64 all[t[h]].e.number,.int .i64 all[t[h]].e.type,.int .i64 all[t[h]].e.start,.int .i64 all[t[h]].e.stop,.slice px qx rx]]) ((pickL all t).take (h+1))∧nl++[all[t[h]].e.number]=numsE ((pickL all t).take (h+1))):=by
      refine⟨?_,?_⟩
      ·rw[hts];exact HP.out.1.snoc HEV.out
      ·rw[hts,HP.out.2];unfold numsE;rw[List.map_append];rfl
     have hx3:t[h]<120:=by have:=HTT.out.2 _ (List.getElem_mem hlt);omega
     clear hwh hwx ux HP HEV hts hpk hPL
     generalize all[t[h]]=x at HXR HXN HPS
     clear hxa
     generalize t[h]=y at hixx HH hx3
     go_wp2_with (first|(with_reducible (first|(refine wR M ?_;clear M;intro q w M)|refine wC (HK.out _ M.new) ?_|refine wC (HH.out _ M.new) ?_|refine wC (HXN.out _ M.new) ?_|refine wA (HXR.out _ M.new) ?_|(refine w_ (q_rowv M ?_);clear M;intro q w M)))|(refine w_ (q_app (R:=rawF) rawF_firm M 2 rfl _ rfl (by rfl) (by rfl) hrl.out ?_);clear M;intro ra2 rc2 w M;(try simp only[List.set_cons_zero,List.set_cons_succ]at M))|(refine w_ (q_app (R:=intF) (plainF_firm _) M 2 rfl _ rfl (by rfl) (by rfl) hnll.out ?_);clear M;intro ra3 rc3 w M;(try simp only[List.set_cons_zero,List.set_cons_succ]at M)))
     go_roundg (t.length - (h+1))
     case measure=>omega
     case rel=>exact⟨h+1,rows++[[.int .i64 x.e.number,.int .i64 x.e.type,.int .i64 x.e.start,.int .i64 x.e.stop,.slice px qx rx]],nl++[x.e.number],_,_,_,_,by omega,by rw[List.length_append];rfl,by rw[List.length_append];rfl,by go_num,by(have M2:=M.drop.drop);(rw[List.length_append,List.length_append];exact M2),HPS⟩
    ·have hje:(pickL all t).take h=pickL all t:=List.take_of_length_le (by omega)
     rw[hje]at HP
     have hsub: ∀ x∈pickL all t,x∈all:=fun x hx=>by
      unfold pickL at hx
      obtain⟨j,hj,rfl⟩:=List.mem_map.1 hx
      have:=HTT.out.2 j hj
      have hja:j<all.length:=by have:=HNA.out;omega
      rw[show all.getD j default=all[j]by simp[List.getD,List.getElem?_eq_getElem hja]]
      exact List.getElem_mem hja
     have HSB:=Lib.hid hsub
     have HPLL:Hid ((pickL all t).length=R.whens.length):=HNC.out t HTLN.out
     have HTO:Hid (toldL b.types R all t=if(namesB b.types R.whens (pickL all t)&&togB b.types R all (pickL all t))=true then [numsE (pickL all t)]else []):=rfl
     have HRW:=Lib.hid HP.out.1
     have HNE:=Lib.hid HP.out.2
     have hrl2:rows.length=R.whens.length:=by rw[HP.out.1.1];exact HPLL.out
     have hrl3:rows.length≤3:=by omega
     clear hje hPL HP hsub
     generalize pickL all t=l at HSB HPLL HTO HRW HNE
     have HRL:=Lib.hid hrl2
     clear hrl2
     go_wp2_with (with_reducible refine wC (HK.out _ M.new) ?_)
     go_loopg [13,14] rows.length (fun f v1 ii wr=> ∃ (h:Nat),h+f=rows.length∧v1= .bool ((List.range h).all (nameI b.types R.whens l))∧ii= .int .i64 h∧Mem (StaysB g w5) g w5 wr ⟨0,0⟩ (slc w5.heap.size 3 1 intF (.slice rb nl.length rd) nl::slc w5.heap.size 65 5 rawF (.slice ra rows.length rc) rows::slc w5.heap.size 36 1 nsF (.slice oa NL.length oc) NL::[]))
     case atStart=>exact⟨0,by omega,rfl,rfl,M⟩
     case round=>
      clear M
      obtain⟨h2,hh2,rfl,rfl,M⟩:=hrel
      by_cases hlt2:h2<rows.length
      ·have hll:h2<l.length:=by have:=HPLL.out;have:=HRL.out;omega
       have hlw:h2<R.whens.length:=by have:=HRL.out;omega
       have HNX:Hid ((List.range (h2+1)).all (nameI b.types R.whens l)=((List.range h2).all (nameI b.types R.whens l)&&nameI b.types R.whens l h2)):=all_range_snoc
       obtain⟨cx,ox,rowx,hixx, -, -, -⟩:=SlF.rowAt (P:=Tryz.prog) (M.slf rawF_firm (i:=1) rfl (by omega)) rawF_firm Tryz.underlying26 size_eve (i:=h2) hlt2
       obtain⟨pe,qe,re,ee, -⟩:=HRW.out.2 h2 hlt2 hll
       have heA:=HEA.out _ (HSB.out _ (List.getElem_mem hll))
       have hgx:=evGood_of heA
       have htl2:l[h2].e.type.toNat<b.types.length:=by have:=hgx.lo;have:=hgx.hi;omega
       obtain⟨ct,ot,rowt,hixt, -,hrrt,hwt⟩:=SlF.rowAt (P:=Tryz.prog) HTA.out typF_firm Tryz.underlying22 size_typ (i:=l[h2].e.type.toNat) htl2
       rw[show((l[h2].e.type.toNat:Nat):Int)=l[h2].e.type from Int.toNat_of_nonneg hgx.lo]at hixt
       obtain⟨pt,qt,rt,et, -⟩:=hrrt
       subst et
       have HTN:Hid (∀ wx,Below w5.heap.size w5 wx→wx.cell? ⟨ct,ot,none⟩=some (.string b.types[l[h2].e.type.toNat].name)):=fun wx hb=>(hwt wx hb).1 0 _ rfl
       obtain⟨cp,op,rowp,hixp, -,hrrp,hwp⟩:=SlF.rowAt (P:=Tryz.prog) HWA.out patF_firm Tryz.underlying53 size_pat (i:=h2) hlw
       obtain⟨so,sn,sc,ep, -⟩:=hrrp
       subst ep
       have HPT:Hid (∀ wx,Below w5.heap.size w5 wx→wx.cell? ⟨cp,op+1,none⟩=some (.string R.whens[h2].type)):=fun wx hb=>(hwp wx hb).1 1 _ rfl
       have HZW:Hid (∀ wx,Below w5.heap.size w5 wx→wx.cell? ⟨za,1,none⟩=some (.slice b1 R.whens.length e1)):=fun wx hb=>HZ.out wx hb 1 _ rfl
       have hnm:nameI b.types R.whens l h2=(b.types[l[h2].e.type.toNat].name.toList==R.whens[h2].type.toList):=by
        unfold nameI evT
        simp[List.getD,List.getElem?_eq_getElem hll,List.getElem?_eq_getElem hlw,List.getElem?_eq_getElem htl2]
        rfl
       have HRC:Hid (∀ {w:World} {s:PS} {L:List Ent},Mem (StaysB g w5) g w5 w s L→L[1]?=some (slc w5.heap.size 65 5 rawF (.slice ra rows.length rc) rows)→w.cell? ⟨cx,ox+1,none⟩=some (.int .i64 l[h2].e.type)):=fun M2 he=>by
        have h5:=raw_cell M2 he hlt2 hixx
        rw[ee]at h5
        exact h5 1 _ rfl
       rw[hnm]at HNX
       clear hwt hwp ee heA hgx hnm
       generalize b.types[l[h2].e.type.toNat].name=tn at HTN HNX
       generalize R.whens[h2].type=pn at HPT HNX
       generalize l[h2].e.type=ty at hixt HRC
       clear hll htl2 hlw
       generalize hnb:(tn.toList==pn.toList)=nb at HNX
       generalize (List.range h2).all (nameI b.types R.whens l)=pb at HNX ⊢
       cases pb with
       |true=>
        go_wp2_with (with_reducible (first|refine wq M ?_|(refine wS M ?_;clear M;intro w M)|(refine wV M ?_;clear M;intro z w M)|(refine wR M ?_;clear M;intro q w M)))
        ((refine wp_region_calm M (by kernel_rfl) (by kernel_rfl) ?_);(repeat(first|((with_reducible refine c_list rfl fun K hK=>?_);(refine c_pure (v:=?_) (fun w=>?_) ?_;rotate_left;focus(go_simp;try with_reducible rfl));(try go_simp);with_reducible refine hK _ ?_;clear hK K)|((with_reducible refine c_listg fun K hK=>?_);(first|(refine c_load (l' :=?_) ⟨_,M⟩ (fun w M=>?_) ?_;rotate_left;focus((first|(refine q_cellat (HZW.out _ M.new) ?_)|(refine q_cellat (HTN.out _ M.new) ?_)|(refine q_cellat (HPT.out _ M.new) ?_)|(refine q_cellat (HRC.out M rfl) ?_));refine⟨rfl,?_⟩;with_reducible rfl))|(refine c_pure (v:=?_) (fun w=>?_) ?_;rotate_left;focus(go_simp;try with_reducible rfl)));(try go_simp);with_reducible refine hK _ ?_;clear hK K)));(refine wpQuiet_nil ?_);clear M;intro w M)
        go_wp2_with (with_reducible (first|refine wq M ?_|(refine wS M ?_;clear M;intro w M)|(refine wV M ?_;clear M;intro z w M)|(refine wR M ?_;clear M;intro q w M)))
        go_roundg (rows.length - (h2+1))
        case measure=>omega
        case rel=>exact⟨h2+1,by omega,by rw[HNX.out];rfl,by go_num,M⟩
       |false=>
        go_wp2_with (with_reducible (first|refine wq M ?_|(refine wS M ?_;clear M;intro w M)|(refine wV M ?_;clear M;intro z w M)|(refine wR M ?_;clear M;intro q w M)))
        ((refine wp_region_calm M (by kernel_rfl) (by kernel_rfl) ?_);(repeat(first|((with_reducible refine c_list rfl fun K hK=>?_);(refine c_pure (v:=?_) (fun w=>?_) ?_;rotate_left;focus(go_simp;try with_reducible rfl));(try go_simp);with_reducible refine hK _ ?_;clear hK K)|(with_reducible refine c_skipT ?_)));(refine wpQuiet_nil ?_);clear M;intro w M)
        go_wp2_with (with_reducible (first|refine wq M ?_|(refine wS M ?_;clear M;intro w M)|(refine wV M ?_;clear M;intro z w M)|(refine wR M ?_;clear M;intro q w M)))
        go_roundg (rows.length - (h2+1))
        case measure=>omega
        case rel=>exact⟨h2+1,by omega,by rw[HNX.out];rfl,by go_num,M⟩
      ·have hne:(List.range h2).all (nameI b.types R.whens l)=namesB b.types R.whens l:=by
        rw[names_range HPLL.out]
        have e:h2=l.length:=by have:=HPLL.out;have:=HRL.out;omega
        rw[e]
       rw[hne]
       have HTG2:=Lib.hid (fun wx ao n cap hb hS=>HTG.out wx ao n cap l hb hS HPLL.out HSB.out)
       clear hne
       cases hnb:namesB b.types R.whens l with
       |false=>
        have HV:Hid (NL=(TE.take (i+1)).flatMap (toldL b.types R all)):=by show _=_;rw[HFS.out,HTO.out,hnb];simp
        clear HFS HTO HTG2 hnb
        go_wp2_with (with_reducible (first|refine wq M ?_|(refine wS M ?_;clear M;intro w M)|(refine wV M ?_;clear M;intro z w M)|(refine wR M ?_;clear M;intro q w M)))
        go_roundg (TE.length - (i+1))
        case measure=>omega
        case rel=>exact⟨i+1,NL,_,_,by omega,rfl,by go_num,M.drop.drop,HV⟩
       |true=>
        have HTG3:=Lib.hid (fun wx ao n cap hb hS=>HTG2.out wx ao n cap hb hS hnb)
        clear HTG2
        rw[hnb]at HTO
        clear hnb
        generalize togB b.types R all l=gb at HTG3 HTO
        cases gb with
        |false=>
         have HV:Hid (NL=(TE.take (i+1)).flatMap (toldL b.types R all)):=by show _=_;rw[HFS.out,HTO.out];simp
         clear HFS HTO
         go_wp2_with (first|((with_reducible refine o_listg fun K hK=>?_);refine q_at (HZ.out _ M.new) (by rfl) ?_;refine hK _ _ ?_;clear hK K)|(go_at_call 40;with_reducible refine(HTG3.out _ _ _ _ M.new (tup_at M (i:=1) rfl HRW.out)).mono ?_;rintro e w6 ⟨rfl,hb6⟩;replace M:=M.below hb6;clear hb6))
         go_roundg (TE.length - (i+1))
         case measure=>omega
         case rel=>exact⟨i+1,NL,_,_,by omega,rfl,by go_num,M.drop.drop,HV⟩
        |true=>
         have HV:Hid (NL++[nl]=(TE.take (i+1)).flatMap (toldL b.types R all)):=by show _=_;rw[HFS.out,HTO.out,HNE.out];simp
         clear HFS HTO
         go_upto_region 19 with(first|((with_reducible refine o_listg fun K hK=>?_);refine q_at (HZ.out _ M.new) (by rfl) ?_;refine hK _ _ ?_;clear hK K)|(go_at_call 40;with_reducible refine(HTG3.out _ _ _ _ M.new (tup_at M (i:=1) rfl HRW.out)).mono ?_;rintro e w6 ⟨rfl,hb6⟩;replace M:=M.below hb6;clear hb6))
         obtain⟨ra5,rc5,e5,M⟩:=M.done (plainF_firm _) (by omega)
         injection e5 with e6 e7 e8
         subst e6 e8
         clear e7
         go_wp2_with (first|(with_reducible (refine w_ (q_rowv M ?_);clear M;intro q w M))|(refine w_ (q_appW (R:=nsF) nsF_firm M 3 rfl nl (nsF_mk (M.dat_ (i:=1) rfl)) (by rfl) (by rfl) hnl.out ?_);clear M;intro ra2 rc2 w M;(try simp only[List.set_cons_zero,List.set_cons_succ]at M)))
         go_roundg (TE.length - (i+1))
         case measure=>omega
         case rel=>exact⟨i+1,NL++[nl],_,_,by omega,by rw[List.length_append];rfl,by go_num,by(have M2:=M.drop.drop.drop);(rw[List.length_append];exact M2),HV⟩
  ·have hje:TE.take i=TE:=List.take_of_length_le (by omega)
   have HV:=HN.out
   rw[hje]at HV
   subst HV
   clear HN hje
   go_wp2_with (with_reducible (first|refine wq M ?_|(refine wS M ?_;clear M;intro w M)|(refine wV M ?_;clear M;intro z w M)|(refine wR M ?_;clear M;intro q w M)))
   go_ret
   rw[HTL.out]
   exact⟨_,_,_,rfl,HW5.out.trans (M.new.mono HW5.out.size),M.slf nsF_firm (i:=0) rfl (by omega)⟩
end
end Go.Proofs.YtfahleafppfkaaaGreatDoor
