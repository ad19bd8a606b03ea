/-
  The walks of the program's Check, first part: names, types. Printed by pga.py.
-/
import Derived.Test.YtcebfkdhicbmkaaDoorChkE
import Derived.Test.YtcebfkdhicbmkaaDoorMmM
namespace Go.Proofs.YtcebfkdhicbmkaaDoor
open Go.RowKit
set_option linter.unusedVariables false
set_option linter.unusedSimpArgs false
structure Env (F:Nat→Prop) (w:World):Prop where
 kept:SlF F w 1 wordF (some ⟨0,0,none⟩) 17 17 keptL
 rels:SlF F w 1 wordF (some ⟨1,0,none⟩) 14 14 relsL
theorem Env.same{F G:Nat→Prop}{w w' :World}(h:Env F w)(hs:Same F G w w'):Env G w' :=⟨h.kept.same (plainF_firm _) hs,h.rels.same (plainF_firm _) hs⟩
theorem Env.below{F:Nat→Prop}{w w' :World}(h:Env F w)(hb:Below w.heap.size w w'):Env F w' :=h.same (Same.below hb)
theorem Env.lt{F:Nat→Prop}{w:World}(h:Env F w):0<w.heap.size:=by
 obtain⟨h1,h2,h3,h4,h5⟩:=h.kept
 obtain⟨b,off,row,e, -,hlt, -⟩:=h5 0 (by decide)
 injection e with e
 injection e with e1 e2
 rw[e1]
 exact hlt
section
variable {At:PS→World→Prop} {b:Nat} {u w:World} {s:PS} {L:List Ent} {P:Program} {l:List Value}
theorem q_ret2{fn:Func}{R:Ending→World→Prop}{j t1:Tmp}{ty:TypeId}{z:Nat}{cs:List Value}{t:TypeId}{i m:Nat}{r1:Value}(M:Mem At b u w s L)(hres:fn.results= #[.cell j ty,.tmp t1])[hp:Nth l j (.pointer (some ⟨z,0,none⟩))][h1:Nth l t1 r1]
  [hz:Has L z i cs t][hT:StI P ty m](hl:Nat.beq cs.length m=true)(hk: ∃ d,P.underlying ty=some d∧(match d with| .struct _| .array _ _=>true|_=>false)=true)(hR:R (.returned (.tuple #[.agg cs.toArray,r1])) w):bodyPost P fn R .ret ⟨l.toArray,[]⟩ w:=by
 obtain⟨d,hu,hd⟩:=hk
 have hO:=M.own_ (Mem.of_get hz.at_)
 have hp' :(l.toArray)[j]?.getD undef= .pointer (some ⟨z,0,none⟩):=by simp[hp.nth]
 have h1' :(l.toArray)[t1]?.getD undef=r1:=by simp[h1.nth]
 refine bodyPost_ret ?_ rfl hR
 have hi:(P.info? ty).map (·.size)=some cs.toArray.size:=by rw[List.size_toArray,Nat.eq_of_beq_eq_true hl];exact hT.st.1
 have hL:=run_loadVar_row w z t ty cs.toArray (0,0) d hO hu (by cases d<;>simp_all) hi
 simp only[List.getElem?_toArray]at hp' h1'
 simp[results,hres,hp',h1',asAddr,hL]
end
def TypAs(F:Nat→Prop)(w:World)(t:Typ)(cs:List Value):Prop:= ∃ a n c,cs=[.string t.name,.slice a n c]∧SlF F w 2 (plainF fldC) a n c t.fields
def TypdPost(F:Nat→Prop)(ts:List Typ)(nm:ByteArray)(w0 w:World):Ending→World→Prop:=fun e w' =>
 ∃ tn a n c,e= .returned (.tuple #[.agg #[.string tn,.slice a n c],.int .i64 (if typI ts nm<ts.length then 0 else 6)])∧Below w.heap.size w w' ∧(typI ts nm<ts.length→tn=(typAt ts nm).name∧SlF F w0 2 (plainF fldC) a n c (typAt ts nm).fields)
theorem SlF.rowAtS{α:Type}{F:Nat→Prop}{k:Nat}{R:(Nat→Prop)→World→List Value→α→Prop}{ao:Option Addr}{n cap:Nat}{xs:List α}{w:World}{P:Program}{t e:Nat}(hX:SlF F w k R ao n cap xs)(ht:P.underlying t=some (.slice e))(hs:SizeIs P e k){i:Nat}(hi:i<xs.length):
  ∃ c off row,(∀ wx,(Instr.indexAt t (.slice ao n cap) (.int .i64 i)).run P wx= .ok (.pointer (some ⟨c,off,none⟩)) wx)∧R F w row xs[i]∧ ∀ wx G,Same F G w wx→wx.rangeAt c off row:=by
 obtain⟨h1,h2,h3,h5,h4⟩:=hX
 obtain⟨b,off,row,rfl,hF,hlt,hr,hR⟩:=h4 i hi
 refine⟨b,off+i*k,row,fun wx=>?_,hR,fun wx G hsm=>(rowAt_same hr (hsm.2 b hF hlt).2).range⟩
 have hin:(i:Int)<n:=by omega
 have hsw:=hs wx
 simp[Instr.indexAt,run_underlying ht,asIntOf,hsw,Addr.add]
 rw[if_pos (by omega)]
 by_cases e:i*k=0
 ·rw[if_pos e,e];simp
 ·rw[if_neg e]
section
variable {g:Nat} {F:Nat→Prop} {ao:Option Addr} {n cap:Nat} {w0:World} {ts:List Typ}
set_option maxHeartbeats 2000000 in
theorem cname_any(s:ByteArray)(w0:World)(hs:s.size≤maxLen)(E:Env F w0):
  Calls Tryd.prog 34 #[.string s] w0 fun e w' =>e= .returned (.int .i64 (freeE s))∧Below w0.heap.size w0 w' :=by
 have M:=Mem.begin E.lt ⟨0,0⟩
 have HN:Hid (∀ wx,Calls Tryd.prog 32 #[.string s] wx fun e w' =>e= .returned (.int .i64 (nameE s))∧Below wx.heap.size wx w'):=fun wx=>(name_any s wx hs).mono (by rintro e w' ⟨rfl,rfl⟩;exact⟨rfl,Below.refl _ _⟩)
 have HK:Hid (∀ wx,Below w0.heap.size w0 wx→Calls Tryd.prog 15 #[.string s] wx fun e w' =>e= .returned (.bool (keptB s))∧Below wx.heap.size wx w'):=fun wx hb=>(kept_any F s wx (E.below hb).kept (E.below hb).rels).mono (by rintro e w' ⟨rfl,rfl⟩;exact⟨rfl,Below.refl _ _⟩)
 by_cases h0:nameE s=0
 ·have HV:Hid (freeE s=if keptB s=true then 4 else 0):=by show _=_;unfold freeE;rw[if_pos h0]
  rw[h0]at HN
  rw[HV.out]
  clear HV E
  generalize keptB s=kb at HK ⊢
  go_enter Tryd.func34,Tryd.ntmps34
  cases kb<;>(go_wp2_with (first|(go_at_call 32;with_reducible refine(HN.out _).mono ?_;rintro e w5 ⟨rfl,hb5⟩;replace M:=M.below hb5;clear hb5)|(go_at_call 15;with_reducible refine(HK.out _ M.new).mono ?_;rintro e w5 ⟨rfl,hb5⟩;replace M:=M.below hb5;clear hb5));go_ret;exact⟨rfl,M.new⟩)
 ·have HV:Hid (freeE s=nameE s):=by show _=_;unfold freeE;rw[if_neg h0]
  have hb:(nameE s !=0)=true:=by simpa using h0
  rw[HV.out]
  clear HV E h0 HK
  generalize nameE s=ne at HN hb ⊢
  go_enter Tryd.func34,Tryd.ntmps34
  go_wp2_with (go_at_call 32;with_reducible refine(HN.out _).mono ?_;rintro e w5 ⟨rfl,hb5⟩;replace M:=M.below hb5;clear hb5)
  go_ret
  exact⟨rfl,M.new⟩
set_option maxRecDepth 8000 in
set_option maxHeartbeats 4000000 in
theorem typed_any{w1:World}(hsm:Same F F w0 w1)(hg:g<w1.heap.size)(hX:SlF F w0 2 typF ao n cap ts)(zs:Nat)(hz:zs<w1.heap.size)(h0:w1.cell? ⟨zs,0,none⟩=some (.slice ao n cap))(nm:ByteArray):
  Calls Tryd.prog 55 #[.pointer (some ⟨zs,0,none⟩),.string nm] w1 (TypdPost F ts nm w0 w1):=by
 have NL:=Lib.hid hX.len
 have hle:=hX.le
 have M:=Mem.begin hg ⟨0,0⟩
 have HX:=Lib.hid hX
 have HSM:=Lib.hid (fun wx (hb:Below w1.heap.size w1 wx)=>hsm.trans (Same.below hb))
 have HS0:Hid (∀ wx,Below w1.heap.size w1 wx→wx.cell? ⟨zs,0,none⟩=some (.slice ao n cap)):=fun wx hb=>by rw[(bcell hb).1 _ _ hz];exact h0
 clear hX hg hz h0 hsm
 go_enter Tryd.func55,Tryd.ntmps55
 go_wp2_with (with_reducible (first|(refine wV M ?_;clear M;intro zr w M)|refine wC (HS0.out _ M.new) ?_))
 go_loopg [13] n (fun f i wr=> ∃ k:Nat,k+f=n∧i= .int .i64 k∧Mem (StaysB g w1) g w1 wr ⟨0,0⟩ (own zr [.string ByteArray.empty,.slice none 0 0] 38::[])∧Hid (NoB ts (fun t=>sameS t.name nm) k))
 case atStart=>exact⟨0,by omega,rfl,M,noB_zero _ _⟩
 case round=>
  clear M
  obtain⟨k,hk,rfl,M,HB⟩:=hrel
  by_cases hlt:k<n
  ·have hkl:k<ts.length:=by have:=NL.out;omega
   obtain⟨ca,oa,rowa,hixa,hrra,hwa⟩:=SlF.rowAtS (P:=Tryd.prog) HX.out Tryd.underlying22 size_typ (i:=k) hkl
   obtain⟨p1,q1,s1,ea,u1⟩:=hrra
   subst ea
   have HR:=Lib.hid (fun wx hb=>hwa wx F (HSM.out wx hb))
   have HP:Hid (∀ b,sameS ts[k].name nm=b→(ts[k].name.toList==nm.toList)=b):=fun b h=>h
   have HS:Hid (sameS ts[k].name nm=true→typI ts nm<ts.length∧ts[k].name=(typAt ts nm).name∧SlF F w0 2 (plainF fldC) p1 q1 s1 (typAt ts nm).fields):=fun h=>by
    have e:typI ts nm=k:=noB_at HB.out hkl h
    have e2:typAt ts nm=ts[k]:=by unfold typAt;rw[e,List.getD_eq_getElem?_getD,List.getElem?_eq_getElem hkl];rfl
    rw[e,e2]
    exact⟨hkl,rfl,u1⟩
   have HT:Hid (sameS ts[k].name nm=false→NoB ts (fun t=>sameS t.name nm) (k+1)):=fun h=>noB_succ HB.out hkl h
   clear hwa u1 HB
   unfold typC at HR
   generalize ts[k].name=tn at HR HP HS HT
   cases hsm:sameS tn nm with
   |true=>
    have hq:=HP.out _ hsm
    have HV:=Lib.hid (HS.out hsm)
    clear HP HS HT hsm
    go_wp2_with (with_reducible (first|(refine wV M ?_;clear M;intro zy w M)|refine wq M ?_|(refine wS M ?_;clear M;intro w M)|refine wA (HR.out _ M.new) ?_))
    refine q_ret2 M Tryd.results55 (by rfl) ⟨_,Tryd.underlying38,rfl⟩ ?_
    exact⟨tn,p1,q1,s1,by rw[if_pos HV.out.1],M.new,fun _=>HV.out.2⟩
   |false=>
    have hq:=HP.out _ hsm
    have HV:=Lib.hid (HT.out hsm)
    clear HP HS HT hsm
    go_wp2_with (with_reducible (first|(refine wV M ?_;clear M;intro zy w M)|refine wq M ?_|(refine wS M ?_;clear M;intro w M)|refine wA (HR.out _ M.new) ?_))
    go_roundg (n - (k+1))
    case measure=>omega
    case rel=>exact⟨k+1,by omega,by go_num,M.drop,HV⟩
  ·have HV:Hid (¬ typI ts nm<ts.length):=by
    have e:k=ts.length:=by have:=NL.out;omega
    have h:typI ts nm=ts.length:=noB_none (e▸HB.out)
    show ¬ _
    omega
   go_wp2_with (with_reducible (refine wS M ?_;clear M;intro w M))
   refine q_ret2 M Tryd.results55 (by rfl) ⟨_,Tryd.underlying38,rfl⟩ ?_
   exact⟨_,_,_,_,by rw[if_neg HV.out],M.new,fun h=>absurd h HV.out⟩
end
end Go.Proofs.YtcebfkdhicbmkaaDoor
