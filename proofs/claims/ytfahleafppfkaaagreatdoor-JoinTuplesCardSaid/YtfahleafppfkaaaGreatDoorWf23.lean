/-
  The walk of sift: a pattern of a part of a rule. Printed by sfd.py.
-/
import Derived.Test.YtfahleafppfkaaaGreatDoorWf19
import Derived.Test.YtfahleafppfkaaaGreatDoorWf22
import Derived.Test.YtfahleafppfkaaaGreatDoorWf06
import Derived.Deep.Quiet
namespace Go.Proofs.YtfahleafppfkaaaGreatDoor
open Go.RowKit
set_option linter.unusedVariables false
set_option linter.unusedSimpArgs false
section
variable {At:PS→World→Prop} {b:Nat} {u w:World} {s:PS} {L:List Ent} {P:Program} {l:List Value}
theorem q_ret2c{fn:Func}{R:Ending→World→Prop}{j t1:Tmp}{ty:TypeId}{z:Nat}{cs:List Value}{t:TypeId}{i m:Nat}{r1:Value}(M:Mem At b u w s L)(hres:fn.results= #[.cell j ty,.tmp t1])[hp:Nth l j (.pointer (some ⟨z,0,none⟩))][h1:Nth l t1 r1]
  [hz:Has L z i cs t][hT:StI P ty m](hl:Nat.beq cs.length m=true)(hk: ∃ d,P.underlying ty=some d∧(match d with| .struct _| .array _ _=>true|_=>false)=true)(hR:R (.returned (.tuple #[.agg cs.toArray,r1])) w):bodyPost P fn R .ret ⟨l.toArray,[]⟩ w:=by
 obtain⟨d,hu,hd⟩:=hk
 have hO:=M.own_ (Mem.of_get hz.at_)
 have hp' :(l.toArray)[j]?.getD undef= .pointer (some ⟨z,0,none⟩):=by simp[hp.nth]
 have h1' :(l.toArray)[t1]?.getD undef=r1:=by simp[h1.nth]
 refine bodyPost_ret ?_ rfl hR
 have hi:(P.info? ty).map (·.size)=some cs.toArray.size:=by rw[List.size_toArray,Nat.eq_of_beq_eq_true hl];exact hT.st.1
 have hL:=run_loadVar_row w z t ty cs.toArray (0,0) d hO hu (by cases d<;>simp_all) hi
 simp only[List.getElem?_toArray]at hp' h1'
 simp[results,hres,hp',h1',asAddr,hL]
end
def rawF:(Nat→Prop)→World→List Value→List Value→Prop:=plainF fun r=>r
theorem rawF_firm:Firm rawF:=plainF_firm _
theorem rawF_mk(F:Nat→Prop)(w:World)(row:List Value):rawF F w row row:=rfl
def pat18z:List Value:=[.string ByteArray.empty,.string ByteArray.empty,.int .i64 0,.slice none 0 0,.int .i64 0,.int .i64 0,.int .i64 0,.string ByteArray.empty,.string ByteArray.empty,.string ByteArray.empty,.int .i64 0,.int .i64 0,.int .i64 0,.string ByteArray.empty,.string ByteArray.empty,.string ByteArray.empty,.int .i64 0,.int .i64 0]
def PatRows(F:Nat→Prop)(w:World)(l:List Pat)(rows:List (List Value)):Prop:= ∀ i (h:i<rows.length),∃ p,l[i]?=some p∧patF F w rows[i] p
theorem patRows_snoc{F:Nat→Prop}{w:World}{l:List Pat}{rows:List (List Value)}{row:List Value}{p:Pat}(h:PatRows F w l rows)(hp:l[rows.length]?=some p)(hr:patF F w row p):PatRows F w l (rows++[row]):=fun i hi=>by
 by_cases e:i<rows.length
 ·rw[List.getElem_append_left e];exact h i e
 ·have e2:i=rows.length:=by simp at hi;omega
  subst e2
  exact⟨p,hp,by simpa using hr⟩
def PatPost(F:Nat→Prop)(wz w0:World)(l:List Pat)(k:Int):Ending→World→Prop:=fun e w' =>Below w0.heap.size w0 w' ∧
 ((0≤k∧k<l.length)→ ∃ row,e= .returned (.tuple #[.agg row.toArray,.bool true])∧patF F wz row (l.getD k.toNat pat0))∧(¬ (0≤k∧k<l.length)→e= .returned (.tuple #[.agg pat18z.toArray,.bool false]))
section
variable {F:Nat→Prop} {wz w0:World} {g:Nat} {x:Rul} {b1:Option Addr} {m1 e1:Nat} {b2:Option Addr} {m2 e2:Nat} {b3:Option Addr} {m3 e3:Nat} {b4:Option Addr} {m4 e4:Nat} {b6:Option Addr} {m6 e6:Nat}
theorem pat_bad{l:List Pat}{k:Int}{w' :World}(hb:Below w0.heap.size w0 w')(h: ¬ (0≤k∧k<l.length)){e:Ending}(he:e= .returned (.tuple #[.agg pat18z.toArray,.bool false])):PatPost F wz w0 l k e w' :=⟨hb,fun h2=>absurd h2 h,fun _=>he⟩
theorem pat_ok{l:List Pat}{k:Int}{w' :World}(hb:Below w0.heap.size w0 w'){row:List Value}(h:0≤k∧k<l.length){e:Ending}(he:e= .returned (.tuple #[.agg row.toArray,.bool true]))(hr:patF F wz row (l.getD k.toNat pat0)):PatPost F wz w0 l k e w' :=⟨hb,fun _=>⟨row,he,hr⟩,fun h2=>absurd h h2⟩
set_option maxRecDepth 8000 in
set_option maxHeartbeats 8000000 in
theorem pattern_whens(hg:g<w0.heap.size)(hbw:Below wz.heap.size wz w0)(X:SlF F wz 18 patF b1 m1 e1 x.whens)(k:Int):Calls Tryz.prog 73 #[.agg (rulC x (.slice b1 m1 e1) (.slice b2 m2 e2) (.slice b3 m3 e3) (.slice b4 m4 e4) (.slice b6 m6 e6)).toArray,.int .i64 0,.int .i64 k] w0 (PatPost F wz w0 x.whens k):=by
 have M:=Mem.begin hg ⟨0,0⟩
 have N:=X.len
 have hle:=X.le
 unfold rulC
 by_cases h0:k<0
 ·have hbad:Hid (¬ (0≤k∧k<x.whens.length)):=by show ¬ _;omega
  clear X N hg hbw
  go_enter Tryz.func73,Tryz.ntmps73
  go_wp2_with (with_reducible (first|(refine wB (L:=[]) M ?_;clear M;intro za w1 M)|(refine wV M ?_;clear M;intro zr w M)|refine wq M ?_|(refine wS M ?_;clear M;intro w M)))
  ((try show bodyPost _ _ _ _ _ _);refine q_ret2c M Tryz.results73 (by rfl) ⟨_,Tryz.underlying78,rfl⟩ ?_)
  exact pat_bad M.new hbad.out rfl
 ·by_cases h1:(m1:Int)≤k
  ·have hbad:Hid (¬ (0≤k∧k<x.whens.length)):=by show ¬ _;omega
   clear X N hg hbw
   go_enter Tryz.func73,Tryz.ntmps73
   go_wp2_with (with_reducible (first|(refine wB (L:=[]) M ?_;clear M;intro za w1 M)|(refine wV M ?_;clear M;intro zr w M)|refine wq M ?_|(refine wS M ?_;clear M;intro w M)))
   ((try show bodyPost _ _ _ _ _ _);refine q_ret2c M Tryz.results73 (by rfl) ⟨_,Tryz.underlying78,rfl⟩ ?_)
   exact pat_bad M.new hbad.out rfl
  ·have hok:Hid (0≤k∧k<x.whens.length):=by show _∧_;omega
   have hkl:k.toNat<x.whens.length:=by omega
   obtain⟨ct,ot,rowt,hixt, -,hrrt,hwt⟩:=SlF.rowAt (P:=Tryz.prog) X patF_firm Tryz.underlying53 size_pat (i:=k.toNat) hkl
   rw[show((k.toNat:Nat):Int)=k from Int.toNat_of_nonneg (by omega)]at hixt
   have HP:Hid (patF F wz rowt (x.whens.getD k.toNat pat0)):=by show patF _ _ _ _;rw[show x.whens.getD k.toNat pat0=x.whens[k.toNat]by simp[List.getD,List.getElem?_eq_getElem hkl]];exact hrrt
   obtain⟨p1,q1,s1,et, -⟩:=hrrt
   subst et
   have HR:=Lib.hid (fun wx (hb:Below w0.heap.size w0 wx)=>(hwt wx (hbw.trans (hb.mono hbw.size))).1)
   generalize x.whens[k.toNat]=y at HP HR
   unfold patC cndC opdC at HR
   simp only[List.cons_append,List.nil_append]at HR
   clear X N hg hbw hwt hkl
   go_enter Tryz.func73,Tryz.ntmps73
   go_wp2_with (with_reducible (first|(refine wB (L:=[]) M ?_;clear M;intro za w1 M)|(refine wV M ?_;clear M;intro zr w M)|refine wq M ?_|(refine wS M ?_;clear M;intro w M)|refine wA (HR.out _ M.new) ?_))
   ((try show bodyPost _ _ _ _ _ _);refine q_ret2c M Tryz.results73 (by rfl) ⟨_,Tryz.underlying78,rfl⟩ ?_)
   exact pat_ok M.new hok.out rfl HP.out
set_option maxRecDepth 8000 in
set_option maxHeartbeats 8000000 in
theorem pattern_nots(hg:g<w0.heap.size)(hbw:Below wz.heap.size wz w0)(X:SlF F wz 18 patF b2 m2 e2 x.nots)(k:Int):Calls Tryz.prog 73 #[.agg (rulC x (.slice b1 m1 e1) (.slice b2 m2 e2) (.slice b3 m3 e3) (.slice b4 m4 e4) (.slice b6 m6 e6)).toArray,.int .i64 1,.int .i64 k] w0 (PatPost F wz w0 x.nots k):=by
 have M:=Mem.begin hg ⟨0,0⟩
 have N:=X.len
 have hle:=X.le
 unfold rulC
 by_cases h0:k<0
 ·have hbad:Hid (¬ (0≤k∧k<x.nots.length)):=by show ¬ _;omega
  clear X N hg hbw
  go_enter Tryz.func73,Tryz.ntmps73
  go_wp2_with (with_reducible (first|(refine wB (L:=[]) M ?_;clear M;intro za w1 M)|(refine wV M ?_;clear M;intro zr w M)|refine wq M ?_|(refine wS M ?_;clear M;intro w M)))
  ((try show bodyPost _ _ _ _ _ _);refine q_ret2c M Tryz.results73 (by rfl) ⟨_,Tryz.underlying78,rfl⟩ ?_)
  exact pat_bad M.new hbad.out rfl
 ·by_cases h1:(m2:Int)≤k
  ·have hbad:Hid (¬ (0≤k∧k<x.nots.length)):=by show ¬ _;omega
   clear X N hg hbw
   go_enter Tryz.func73,Tryz.ntmps73
   go_wp2_with (with_reducible (first|(refine wB (L:=[]) M ?_;clear M;intro za w1 M)|(refine wV M ?_;clear M;intro zr w M)|refine wq M ?_|(refine wS M ?_;clear M;intro w M)))
   ((try show bodyPost _ _ _ _ _ _);refine q_ret2c M Tryz.results73 (by rfl) ⟨_,Tryz.underlying78,rfl⟩ ?_)
   exact pat_bad M.new hbad.out rfl
  ·have hok:Hid (0≤k∧k<x.nots.length):=by show _∧_;omega
   have hkl:k.toNat<x.nots.length:=by omega
   obtain⟨ct,ot,rowt,hixt, -,hrrt,hwt⟩:=SlF.rowAt (P:=Tryz.prog) X patF_firm Tryz.underlying53 size_pat (i:=k.toNat) hkl
   rw[show((k.toNat:Nat):Int)=k from Int.toNat_of_nonneg (by omega)]at hixt
   have HP:Hid (patF F wz rowt (x.nots.getD k.toNat pat0)):=by show patF _ _ _ _;rw[show x.nots.getD k.toNat pat0=x.nots[k.toNat]by simp[List.getD,List.getElem?_eq_getElem hkl]];exact hrrt
   obtain⟨p1,q1,s1,et, -⟩:=hrrt
   subst et
   have HR:=Lib.hid (fun wx (hb:Below w0.heap.size w0 wx)=>(hwt wx (hbw.trans (hb.mono hbw.size))).1)
   generalize x.nots[k.toNat]=y at HP HR
   unfold patC cndC opdC at HR
   simp only[List.cons_append,List.nil_append]at HR
   clear X N hg hbw hwt hkl
   go_enter Tryz.func73,Tryz.ntmps73
   go_wp2_with (with_reducible (first|(refine wB (L:=[]) M ?_;clear M;intro za w1 M)|(refine wV M ?_;clear M;intro zr w M)|refine wq M ?_|(refine wS M ?_;clear M;intro w M)|refine wA (HR.out _ M.new) ?_))
   ((try show bodyPost _ _ _ _ _ _);refine q_ret2c M Tryz.results73 (by rfl) ⟨_,Tryz.underlying78,rfl⟩ ?_)
   exact pat_ok M.new hok.out rfl HP.out
set_option maxRecDepth 8000 in
set_option maxHeartbeats 8000000 in
theorem pattern_manies(hg:g<w0.heap.size)(hbw:Below wz.heap.size wz w0)(X:SlF F wz 20 manF b3 m3 e3 x.manies)(hsm:x.manies.length≤100000)(k:Int):Calls Tryz.prog 73 #[.agg (rulC x (.slice b1 m1 e1) (.slice b2 m2 e2) (.slice b3 m3 e3) (.slice b4 m4 e4) (.slice b6 m6 e6)).toArray,.int .i64 2,.int .i64 k] w0 (PatPost F wz w0 (x.manies.map Many.pat) k):=by
 have M:=Mem.begin hg ⟨0,0⟩
 have N:=Lib.hid X.len
 have hle:=X.le
 have HX:=Lib.hid X
 have HSM:=Lib.hid hsm
 unfold rulC
 replace hbw:=Lib.hid hbw
 clear X hg hsm
 go_enter Tryz.func73,Tryz.ntmps73
 go_wp2_with (with_reducible (first|(refine wB (L:=[]) M ?_;clear M;intro za w1 M)|(refine wV M ?_;clear M;intro zr w M)|refine wq M ?_))
 replace M:=M.none_ (R:=rawF) rawF_firm 78 18
 go_loopg [8,26] m3 (fun f vv i wr=> ∃ (j:Nat) (rows:List (List Value)) (ra:Option Addr) (rc:Nat),j+f=m3∧rows.length=j∧vv= .slice ra rows.length rc∧i= .int .i64 j∧Mem (StaysB g w0) g w0 wr ⟨0,0⟩ (slc w0.heap.size 78 18 rawF (.slice ra rows.length rc) rows::own zr [.string ByteArray.empty,.string ByteArray.empty,.int .i64 0,.slice none 0 0,.int .i64 0,.int .i64 0,.int .i64 0,.string ByteArray.empty,.string ByteArray.empty,.string ByteArray.empty,.int .i64 0,.int .i64 0,.int .i64 0,.string ByteArray.empty,.string ByteArray.empty,.string ByteArray.empty,.int .i64 0,.int .i64 0] 78::own za [.string x.name,.slice b1 m1 e1,.slice b2 m2 e2,.slice b3 m3 e3,.slice b4 m4 e4,.string x.etype,.slice b6 m6 e6] 60::[])∧Hid (PatRows F wz (x.manies.map Many.pat) rows))
 case atStart=>exact⟨0,[],none,0,by omega,rfl,rfl,rfl,M,fun i hi=>absurd hi (Nat.not_lt_zero i)⟩
 case round=>
  clear M
  obtain⟨j,rows,ra,rc,hj,hrl,rfl,rfl,M,HPR⟩:=hrel
  by_cases hlt:j<m3
  ·have hkl:j<x.manies.length:=by have:=N.out;omega
   obtain⟨ct,ot,rowt,hixt, -,hrrt,hwt⟩:=SlF.rowAt (P:=Tryz.prog) HX.out manF_firm Tryz.underlying54 size_man (i:=j) hkl
   obtain⟨p1,q1,s1,et,ut⟩:=hrrt
   subst et
   have HR:=Lib.hid (fun wx (hb:Below w0.heap.size w0 wx)=>(hwt wx (hbw.out.trans (hb.mono hbw.out.size))).1)
   have hlen:Hid (rows.length≤100000):=by have:=HSM.out;show _≤_;omega
   have HPN:Hid (PatRows F wz (x.manies.map Many.pat) (rows++[patC x.manies[j].pat p1 q1 s1])):=patRows_snoc HPR.out (by rw[hrl];simp[List.getElem?_eq_getElem hkl]) ⟨p1,q1,s1,rfl,ut⟩
   clear hwt HPR ut
   generalize x.manies[j]=y at HR HPN
   clear hkl
   unfold manC patC cndC opdC at HR
   unfold patC cndC opdC at HPN
   simp only[List.cons_append,List.nil_append]at HR HPN
   go_wp2_with (first|(with_reducible (first|(refine wV M ?_;clear M;intro zm w M)|refine wq M ?_|(refine wS M ?_;clear M;intro w M)|(refine wR M ?_;clear M;intro q w M)|refine wA (HR.out _ M.new) ?_))|((with_reducible refine o_list rfl fun K hK=>?_);(refine q_app (R:=rawF) rawF_firm M 2 rfl [.string y.pat.var,.string y.pat.type,.int .i64 y.pat.wher.kind,.slice p1 q1 s1,.int .i64 y.pat.wher.left.kind,.int .i64 y.pat.wher.left.vkind,.int .i64 y.pat.wher.left.vint,.string y.pat.wher.left.vtext,.string y.pat.wher.left.var,.string y.pat.wher.left.field,.int .i64 y.pat.wher.right.kind,.int .i64 y.pat.wher.right.vkind,.int .i64 y.pat.wher.right.vint,.string y.pat.wher.right.vtext,.string y.pat.wher.right.var,.string y.pat.wher.right.field,.int .i64 y.pat.window,.int .i64 y.pat.n] (rawF_mk _ _ _) (by rfl) (by rfl) hlen.out ?_;clear M;intro ra2 rc2 w M;(try simp only[List.set_cons_zero,List.set_cons_succ]at M));(refine hK _ _ ?_);clear hK K))
   go_roundg (m3 - (j+1))
   case measure=>omega
   case rel=>exact⟨j+1,_,_,_,by omega,by rw[List.length_append,hrl];rfl,by rw[List.length_append];rfl,by go_num,by(have M2:=M.drop.drop);(rw[List.length_append];exact M2),HPN⟩
  ·have hjm:j=m3:=by omega
   have hml:rows.length=m3:=by omega
   have NL:Hid (m3=(x.manies.map Many.pat).length):=by show _=_;rw[List.length_map];exact N.out
   clear HX HSM N
   by_cases h0:k<0
   ·have hbad:Hid (¬ (0≤k∧k<(x.manies.map Many.pat).length)):=by show ¬ _;omega
    clear NL
    go_wp2_with (with_reducible (refine wS M ?_;clear M;intro w M))
    ((try show bodyPost _ _ _ _ _ _);refine q_ret2c M Tryz.results73 (by rfl) ⟨_,Tryz.underlying78,rfl⟩ ?_)
    exact pat_bad M.new hbad.out rfl
   ·by_cases h1:(rows.length:Int)≤k
    ·have hbad:Hid (¬ (0≤k∧k<(x.manies.map Many.pat).length)):=by have:=NL.out;show ¬ _;omega
     clear NL hml
     go_wp2_with (with_reducible (refine wS M ?_;clear M;intro w M))
     ((try show bodyPost _ _ _ _ _ _);refine q_ret2c M Tryz.results73 (by rfl) ⟨_,Tryz.underlying78,rfl⟩ ?_)
     exact pat_bad M.new hbad.out rfl
    ·have hok:Hid (0≤k∧k<(x.manies.map Many.pat).length):=by have:=NL.out;show _∧_;omega
     have hkl:k.toNat<rows.length:=by omega
     obtain⟨ra2,rc2,e2,M⟩:=M.done rawF_firm (by omega)
     injection e2 with e2 e3 e4
     subst e2 e4
     have hS:=M.dat_ (i:=0) rfl
     obtain⟨ct,ot,rowt,hixt,hlt,hrrt,hwt⟩:=SlF.rowAt (P:=Tryz.prog) hS rawF_firm Tryz.underlying53 size_pat (i:=k.toNat) hkl
     rw[show((k.toNat:Nat):Int)=k from Int.toNat_of_nonneg (by omega)]at hixt
     have et:rowt=rows[k.toNat]:=hrrt
     obtain⟨p,hp,hpf⟩:=HPR.out _ hkl
     rw[←et]at hpf
     have HP:Hid (patF F wz rowt ((x.manies.map Many.pat).getD k.toNat pat0)):=by show patF _ _ _ _;rw[show(x.manies.map Many.pat).getD k.toNat pat0=p by simp only[List.getD,hp];rfl];exact hpf
     obtain⟨p1,q1,s1,et2, -⟩:=hpf
     have HR:=Lib.hid (hwt _ (Below.refl _ _)).1
     clear hS hwt hrrt et hp HPR NL hml hrl
     subst et2
     unfold patC cndC opdC at HR HP
     simp only[List.cons_append,List.nil_append]at HR HP
     go_wp2_with (first|(with_reducible (refine wS M ?_;clear M;intro w M))|(with_reducible refine wA HR.out ?_))
     ((try show bodyPost _ _ _ _ _ _);refine q_ret2c M Tryz.results73 (by rfl) ⟨_,Tryz.underlying78,rfl⟩ ?_)
     exact pat_ok M.new hok.out rfl HP.out
theorem pattern_none(hg:g<w0.heap.size)(part k:Int)(hp: ¬ (0≤part∧part≤2)):Calls Tryz.prog 73 #[.agg (rulC x (.slice b1 m1 e1) (.slice b2 m2 e2) (.slice b3 m3 e3) (.slice b4 m4 e4) (.slice b6 m6 e6)).toArray,.int .i64 part,.int .i64 k] w0 (PatPost F wz w0 [] k):=by
 have M:=Mem.begin hg ⟨0,0⟩
 have p0:(part==0)=false:=by simp;omega
 have p1:(part==1)=false:=by simp;omega
 have p2:(part==2)=false:=by simp;omega
 unfold rulC
 clear hg hp
 go_enter Tryz.func73,Tryz.ntmps73
 go_wp2_with (with_reducible (first|(refine wB (L:=[]) M ?_;clear M;intro za w1 M)|(refine wV M ?_;clear M;intro zr w M)|refine wq M ?_|(refine wS M ?_;clear M;intro w M)))
 ((try show bodyPost _ _ _ _ _ _);refine q_ret2c M Tryz.results73 (by rfl) ⟨_,Tryz.underlying78,rfl⟩ ?_)
 exact pat_bad M.new (fun h=>absurd h.2 (by have:=h.1;show ¬ k<0;omega)) rfl
theorem takePat_any(hg:g<w0.heap.size)(hbw:Below wz.heap.size wz w0)(X1:SlF F wz 18 patF b1 m1 e1 x.whens)(X2:SlF F wz 18 patF b2 m2 e2 x.nots)(X3:SlF F wz 20 manF b3 m3 e3 x.manies)(hsm:x.manies.length≤100000)(part k:Int):Calls Tryz.prog 73 #[.agg (rulC x (.slice b1 m1 e1) (.slice b2 m2 e2) (.slice b3 m3 e3) (.slice b4 m4 e4) (.slice b6 m6 e6)).toArray,.int .i64 part,.int .i64 k] w0 (PatPost F wz w0 (partL x part) k):=by
 unfold partL
 by_cases h0:part=0
 ·subst h0;exact pattern_whens hg hbw X1 k
 by_cases h1:part=1
 ·subst h1;exact pattern_nots hg hbw X2 k
 by_cases h2:part=2
 ·subst h2;exact pattern_manies hg hbw X3 hsm k
 rw[if_neg h0,if_neg h1,if_neg h2]
 exact pattern_none hg part k (by omega)
end
end Go.Proofs.YtfahleafppfkaaaGreatDoor
/-
  A made row, and a slice that came in behind it: one append.
-/
namespace Go.Proofs.YtfahleafppfkaaaGreatDoor
open Go.RowKit
set_option linter.unusedVariables false
set_option linter.unusedSimpArgs false
theorem rowEve:RowT Tryz.prog 26 65 5:=⟨Tryz.underlying26,⟨.agg ([.int .i64 0,.int .i64 0,.int .i64 0,.int .i64 0,.slice none 0 0]:List Value).toArray,by kernel_rfl,rfl⟩,by kernel_rfl,by kernel_rfl,by omega,by omega⟩
instance iRowEve:RowI Tryz.prog 26 65 5:=⟨rowEve⟩
theorem run_append_empty{P:Program}{t e:TypeId}{i:TypeInfo}(ht:P.underlying t=some (.slice e))(hi:P.info? e=some i)(w:World)(vo ao:Option Addr)(n vc cap:Nat)(h:n≤vc):
  (Builtin.append_ #[t,t] t #[.slice vo n vc,.slice ao 0 cap]).run P w= .ok (.slice vo n vc) w:=by
 cases ao<;>cases vo<;>simp[Builtin.append_,run_underlying ht,sizeOf,typeInfo,hi,Builtin.lenOf,Builtin.firstCells,storeCells,loadCells,loadCellsFrom,h]
theorem run_join{α:Type}{P:Program}{t e:TypeId}{i:TypeInfo}{z:Value}{k bytes:Nat}(ht:P.underlying t=some (.slice e))(hi:P.info? e=some i)(hz:i.zero=some z)
  (hsize:i.size=k)(hby:i.bytes=bytes)(hzs:z.cells.size=k)(hk:0<k){F:Nat→Prop}{R:(Nat→Prop)→World→List Value→α→Prop}(hR:Firm R)(h1: ∀ F w row x,R F w row x→ ∀ u∈row,u.oneCell' =true)
  {w:World}{q:Nat}{row:List Value}{x:α}(ho:Own q row e w)(hrl:row.length=k)(hx:R F w row x)(hF: ∀ b,F b→b≠q){ao:Option Addr}{n cap:Nat}{xs:List α}(h:SlF F w k R ao n cap xs)(hbytes:(1+n)*bytes≤140737488355328)(hsm:1+n≤maxLen):
  ∃ ra rc w',(Builtin.append_ #[t,t] t #[.slice (some ⟨q,0,none⟩) 1 1,.slice ao n cap]).run P w= .ok (.slice ra (1+n) rc) w' ∧SlF (fun _=>True) w' k R ra (1+n) rc (x::xs)∧But q w w' :=by
 obtain⟨hn,hcap,hmax,hnil,hrows⟩:=h
 have hq:q<w.heap.size:=ho.lt
 rcases Nat.eq_zero_or_pos n with h0|hpos
 ·subst h0
  have e0:xs=[]:=List.eq_nil_of_length_eq_zero hn.symm
  subst e0
  refine⟨some ⟨q,0,none⟩,1,w,run_append_empty ht hi w _ ao 1 1 cap (Nat.le_refl _),⟨rfl,Nat.le_refl _,by unfold maxLen;omega,(fun h=>by cases h),fun j hj=>?_⟩,But.refl _ _⟩
  have ej:j=0:=by simp at hj;exact hj
  subst ej
  refine⟨q,0,row,rfl,trivial,hq,⟨hrl,fun j hj=>?_⟩,hR _ _ _ _ _ _ (Same.wide (fun _ _ _=>trivial)) hx⟩
  simp only[Nat.zero_mul,Nat.zero_add]
  rw[ho.cell]
  simp[List.getD,List.getElem?_eq_getElem (show j<row.length by omega)]
 ·have key: ∀ i:Nat,∃ rw_:List Value,rw_.length=k∧(i<n→ ∃ b off,ao=some ⟨b,off,none⟩∧b<w.heap.size∧RowAt w b (off+i*k) k rw_∧ ∃ hi:i<xs.length,R F w rw_ xs[i]):=by
   intro i
   by_cases hi:i<n
   ·obtain⟨b,off,rw_,e,hF,hb,hr,hx⟩:=hrows i (by omega)
    exact⟨rw_,hr.1,fun _=>⟨b,off,e,hb,hr,by omega,hx⟩⟩
   ·exact⟨List.replicate k undef,by simp,fun h=>absurd h hi⟩
  obtain⟨rows,hrw⟩: ∃ rows:Nat→List Value,∀ i,(rows i).length=k∧(i<n→ ∃ b off,ao=some ⟨b,off,none⟩∧b<w.heap.size∧RowAt w b (off+i*k) k (rows i)∧ ∃ hi:i<xs.length,R F w (rows i) xs[i]):=
   ⟨fun i=>Classical.choose (key i),fun i=>Classical.choose_spec (key i)⟩
  obtain⟨hfl,hfi⟩:=flat_row rows (fun i=>(hrw i).1) n
  obtain⟨b,off,hao,hblt,_⟩:=(hrw 0).2 hpos
  subst hao
  have hcell: ∀ i j,i<n→j<k→w.cell? ⟨b,off+(i*k+j),none⟩=some ((rows i).getD j undef):=by
   intro i j hi hj
   obtain⟨b',off',e,_,hr,_⟩:=(hrw i).2 hi
   injection e with e;injection e with e1 e2;subst e1;subst e2
   have:=hr.2 j hj
   rwa[Nat.add_assoc]at this
  have hdm: ∀ m,m<n*k→ ∃ i j,i<n∧j<k∧m=i*k+j:=fun m hm=>⟨m / k,m % k,(Nat.div_lt_iff_lt_mul hk).2 hm,Nat.mod_lt _ hk,by rw[Nat.mul_comm];exact(Nat.div_add_mod m k).symm⟩
  have hown:w.ownsRow q e k (.slice (some ⟨q,0,none⟩) 1 1) 1 row:=⟨by rw[Nat.one_mul];exact hrl,Or.inr ⟨q,1,row.toArray,rfl,Nat.le_refl _,ho,Nat.le_refl _,by unfold maxLen;omega,by rw[List.size_toArray,Nat.one_mul];exact hrl,by rw[Nat.one_mul,←hrl];simp⟩⟩
  obtain⟨v',w',hrun,hown',hgrown,_,hob⟩:=run_append_own_at (P:=P) w q t t e i z k bytes ht hi hz hsize hby hzs hk (.slice (some ⟨q,0,none⟩) 1 1) 1 row hown
   ⟨b,off,none⟩ n cap ((List.range n).flatMap rows) hfl (fun m u hu=>by
    have hm:m<n*k:=by rw[←hfl];exact(List.getElem?_eq_some_iff.1 hu).1
    obtain⟨i,j,hi,hj,rfl⟩:=hdm m hm
    rw[hfi i j hi hj]at hu
    rw[Go.WideShapes.add_plain,hcell i j hi hj]
    simp[List.getD,hu])
   (fun u hu=>by
    obtain⟨i,hi,hu⟩:=List.mem_flatMap.1 hu
    obtain⟨_,_,_,_,_,_,hx⟩:=(hrw i).2 (List.mem_range.1 hi)
    exact h1 _ _ _ _ hx u hu)
   hsm hbytes (Nat.le_of_lt hq)
  have hbut:But q w w' :=But.of_grown hgrown hq
  have hsame:Same F (fun _=>True) w w' :=⟨hbut.size,fun b hb hlt=>⟨trivial,hbut.rest b hlt (hF b hb)⟩⟩
  rcases hown'.2 with⟨_,h0⟩|⟨g,cap',cur,hv',hg,hh,hnc,hcm,hsz,htk⟩
  ·omega
  ·subst hv'
   refine⟨_,_,w',hrun,⟨by simp only[List.length_cons];omega,hnc,hcm,(fun h=>by cases h),fun j hj=>?_⟩,hbut⟩
   have hgl:g<w'.heap.size:=(Array.getElem?_eq_some_iff.1 hh).1
   have hcur: ∀ m u,(row++(List.range n).flatMap rows)[m]?=some u→w'.cell? ⟨g,m,none⟩=some u:=fun m u hu=>by
    rw[←htk]at hu
    have hlt:m<(1+n)*k:=by
     have:=(List.getElem?_eq_some_iff.1 hu).1
     rw[List.length_take]at this
     omega
    rw[List.getElem?_take,if_pos hlt]at hu
    simp only[World.cell?,hh]
    simpa using hu
   rcases j with _|j
   ·refine⟨g,0,row,rfl,trivial,hgl,⟨hrl,fun j hj=>?_⟩,hR _ _ _ _ _ _ hsame hx⟩
    have h4:=hcur (0+0*k+j) (row.getD j undef) (by
     simp only[Nat.zero_mul,Nat.zero_add]
     rw[List.getElem?_append_left (by omega)]
     simp[List.getD,List.getElem?_eq_getElem (show j<row.length by omega)])
    exact h4
   ·have hi' :j<n:=by simp only[List.length_cons]at hj;omega
    obtain⟨_,_,_,_,_,hx',hxr⟩:=(hrw j).2 hi'
    refine⟨g,0,rows j,rfl,trivial,hgl,⟨(hrw j).1,fun m hm=>?_⟩,by simpa using hR _ _ _ _ _ _ hsame hxr⟩
    refine hcur (0+(j+1)*k+m) ((rows j).getD m undef) ?_
    have e4:0+(j+1)*k+m=row.length+(j*k+m):=by rw[hrl,Nat.add_mul];omega
    rw[e4,List.getElem?_append_right (by omega),Nat.add_sub_cancel_left,hfi j m hi' hm]
    simp[List.getD,List.getElem?_eq_getElem (show m<(rows j).length by rw[(hrw j).1];exact hm)]
section
variable {At:PS→World→Prop} {b:Nat} {u w w' :World} {s:PS} {L:List Ent}
theorem Mem.lose{q i:Nat}{cs:List Value}{t:TypeId}(M:Mem At b u w s L)(hi:L[i]?=some (own q cs t))(hb:But q w w'):Mem At b u w' s (L.set i (dat fun _ _=>True)):=by
 have hlow:=M.low _ (Mem.of_get hi) q rfl
 have hbl:b<w.heap.size:=Nat.lt_of_lt_of_le M.lt M.size
 have hne:b≠q:=by have:=M.lt;omega
 have h1:w'.heap[b]?=w.heap[b]?:=hb.rest b hbl hne
 have hsz:=hb.size
 refine M.setAt hi (M.stay _ _ _ h1 M.at_) ?_ hsz (fun k hk _ hk2=>hb.rest k hk (fun e=>hk2 (by rw[e];rfl))) (dat_firm fun _ _ _ _ _ _=>trivial) (fun y hy=>by cases hy) (fun y hy=>by cases hy) (fun G _ _=>trivial)
 refine⟨M.but.below.trans (hb.below.mono (by have:=M.lt;omega)),fun k hk hkb=>?_⟩
 rw[hb.rest k (Nat.lt_of_lt_of_le hk M.size) (by omega)]
 exact M.but.rest k hk hkb
end
end Go.Proofs.YtfahleafppfkaaaGreatDoor
/-
  Regions that draw, where every operation reads, reckons, or calls what leaves the elder blocks alone: one walk of the lexical order serves them all.
-/
namespace Go.Proofs.YtfahleafppfkaaaGreatDoor
open Go.RowKit
set_option linter.unusedVariables false
set_option linter.unusedSimpArgs false
@[irreducible] def QSP (P:Program) (o:Oper) (a:Act) (C:World→Prop) (K:Act→Prop):Prop:=o.quiet P a C K
theorem qsp_eq{P:Program}{o:Oper}{a:Act}{C:World→Prop}{K:Act→Prop}:QSP P o a C K=o.quiet P a C K:=by unfold QSP;rfl
theorem qsp_of{P:Program}{o:Oper}{a:Act}{C:World→Prop}{K:Act→Prop}(h:o.quiet P a C K):QSP P o a C K:=qsp_eq▸h
theorem qsp_out{P:Program}{o:Oper}{a:Act}{C:World→Prop}{K:Act→Prop}(h:QSP P o a C K):o.quiet P a C K:=qsp_eq▸h
section
variable {P:Program} {ops:Array Oper} {opsl rest:List Oper} {o:Oper} {a:Act} {C:World→Prop} {Q:Act→Prop} {K:Act→Prop} {dst:Option Tmp} {op:Op} {oty:TypeId} {pos:String} {after:Array Edge} {g:Option (Nat×Bool)} {gi:Nat} {want:Bool} {t:Tmp} {l l' :List Value} {ds:List Deferred}
theorem c_list(hg:o.guard=none)(h: ∀ K:Act→Prop,(∀ a,wpQuiet P ops C Q rest a→K a)→QSP P o a C K):wpQuiet P ops C Q (o::rest) a:=
 wpQuiet_step fun K hK=>by rw[if_pos (wanted_none hg)];exact qsp_out (h K hK)
theorem c_listg[ho:NthO opsl gi t][hv:Nth l t (.bool want)](h: ∀ K:Act→Prop,(∀ a,wpQuiet P opsl.toArray C Q rest a→K a)→QSP P ⟨dst,op,oty,pos,after,some (gi,want)⟩ ⟨l.toArray,ds⟩ C K):
  wpQuiet P opsl.toArray C Q (⟨dst,op,oty,pos,after,some (gi,want)⟩::rest) ⟨l.toArray,ds⟩:=
 wpQuiet_step fun K hK=>by rw[if_pos (by rw[wanted_g hv.nth];simp)];exact qsp_out (h K hK)
theorem c_skipT[ho:NthO opsl gi t][hv:Nth l t (.bool false)][hp:PutI l dst undef l'](h:wpQuiet P opsl.toArray C Q rest ⟨l'.toArray,ds⟩):wpQuiet P opsl.toArray C Q (⟨dst,op,oty,pos,after,some (gi,true)⟩::rest) ⟨l.toArray,ds⟩:=
 wpQuiet_step fun K hK=>by rw[if_neg (by rw[wanted_g hv.nth];simp)];refine hK _ ?_;rw[hp.put];exact h
theorem c_skipF[ho:NthO opsl gi t][hv:Nth l t (.bool true)][hp:PutI l dst undef l'](h:wpQuiet P opsl.toArray C Q rest ⟨l'.toArray,ds⟩):wpQuiet P opsl.toArray C Q (⟨dst,op,oty,pos,after,some (gi,false)⟩::rest) ⟨l.toArray,ds⟩:=
 wpQuiet_step fun K hK=>by rw[if_neg (by rw[wanted_g hv.nth];simp)];refine hK _ ?_;rw[hp.put];exact h
theorem c_pure{v:Value}(hr: ∀ w,(execOp a.eval o).run P w= .ok (.value v) w)(h:K (a.put o.dst v)):QSP P o a C K:=
 qsp_of ⟨v,fun w hw=>by unfold Oper.quietAt;rw[hr w];exact⟨rfl,rfl⟩,h⟩
theorem c_call{n:FuncId}{args:Array Value}{v:Value}(hr: ∀ w,(execOp a.eval o).run P w= .ok (.enter n args) w)(hc: ∀ w,C w→Calls P n args w fun e w' =>e= .returned v∧C w')(h:K (a.put o.dst v)):QSP P o a C K:=
 qsp_of ⟨v,fun w hw=>by unfold Oper.quietAt;rw[hr w];exact⟨rfl,hc w hw⟩,h⟩
theorem c_load{d:Nat}{ty:TypeId}{x:Operand}{x0:Value}[h0:Nth l d x0](hi: ∃ w,C w)(h: ∀ w,C w→OWP P ⟨some d,.load ty x,oty,pos,after,g⟩ ⟨l.toArray,ds⟩ w (fun a' w' =>w' =w∧a' =⟨l'.toArray,ds⟩) (fun _ _ _=>False))(hk:K ⟨l'.toArray,ds⟩):QSP P ⟨some d,.load ty x,oty,pos,after,g⟩ ⟨l.toArray,ds⟩ C K:=by
 have hl:d<l.length:=(List.getElem?_eq_some_iff.1 h0.nth).1
 have key: ∀ w,C w→ ∃ y,(Instr.loadAt ty (Act.eval ⟨l.toArray,ds⟩ x)).run P w= .ok y w∧l' =l.set d y:=fun w hw=>by
  have h2:=owp_out (h w hw)
  unfold Oper.wp execOp at h2
  simp only[Sem.run_bind]at h2
  cases hr:(Instr.loadAt ty (Act.eval ⟨l.toArray,ds⟩ x)).run P w with
  |ok y w' =>
   rw[hr]at h2
   simp only[Result.andThen_ok,Sem.run_pure]at h2
   obtain⟨e1,e2⟩:=h2
   refine⟨y,by rw[e1],?_⟩
   simp only[Act.put,Act.mk.injEq,and_true]at e2
   have e3:=congrArg Array.toList e2
   simpa using e3.symm
  |halt e w' =>
   rw[hr]at h2
   revert h2
   cases e<;>(intro h2;exact absurd h2 (by simp[Result.andThen,Oper.upon]))
 obtain⟨w0,hw0⟩:=hi
 obtain⟨y0, -,e0⟩:=key w0 hw0
 refine qsp_of ⟨y0,fun w hw=>?_,by rw[put_set,←e0];exact hk⟩
 obtain⟨y,hr,e⟩:=key w hw
 unfold Oper.quietAt execOp
 simp only[Sem.run_bind,hr,Result.andThen_ok,Sem.run_pure]
 refine⟨rfl,?_⟩
 have e3:=congrArg (fun x:List Value=>x[d]?) (e.symm.trans e0)
 simpa[hl]using e3
end
section
variable {P:Program} {At:PS→World→Prop} {b:Nat} {u w:World} {s:PS} {L:List Ent}
theorem wp_region_calm{id:Nat}{Q:Exit→Act→World→Prop}{a:Act}{l:List Oper}(M:Mem At b u w s L)(hm:P.follows .mixedOrders=true)(hB:Region.lexB .any l.toArray=true)
  (h:wpQuiet P l.toArray (fun wx=>Mem At b u wx s L) (fun a' => ∀ w',Mem At b u w' s L→Q .normal a' w') l a):(Code.region id l.toArray true).wp P Q a w:=
 wp_region_quiet (C:=fun wx=>Mem At b u wx s L) hm hB M.drew (by simpa using h)
end
end Go.Proofs.YtfahleafppfkaaaGreatDoor
