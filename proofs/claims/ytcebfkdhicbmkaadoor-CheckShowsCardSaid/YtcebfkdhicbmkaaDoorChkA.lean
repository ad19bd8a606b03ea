/-
  The walks of the reference's BookFault, first part: names, places.
-/
import Derived.Test.YtcebfkdhicbmkaaDoorChkP
namespace Go.Proofs.YtcebfkdhicbmkaaDoor
open Go.RowKit
set_option linter.unusedVariables false
set_option linter.unusedSimpArgs false
def NoB{α:Type}(l:List α)(p:α→Bool)(k:Nat):Prop:= ∀ j (h:j<l.length),j<k→p l[j]=false
theorem noB_zero{α:Type}(l:List α)(p:α→Bool):NoB l p 0:=fun j _ h=>absurd h (Nat.not_lt_zero j)
theorem noB_succ{α:Type}{l:List α}{p:α→Bool}{k:Nat}(h:NoB l p k)(hk:k<l.length)(hp:p l[k]=false):NoB l p (k+1):=fun j hj hjk=>by
 rcases Nat.lt_succ_iff_lt_or_eq.1 hjk with h' |rfl
 ·exact h j hj h'
 ·exact hp
theorem noB_at{α:Type}{l:List α}{p:α→Bool}{k:Nat}(h:NoB l p k)(hk:k<l.length)(hp:p l[k]=true):l.findIdx p=k:=by
 rw[List.findIdx_eq hk]
 exact⟨hp,fun j hj=>h j (by omega) hj⟩
theorem noB_none{α:Type}{l:List α}{p:α→Bool}(h:NoB l p l.length):l.findIdx p=l.length:=by
 rw[List.findIdx_eq_length]
 intro x hx
 obtain⟨j,hj,rfl⟩:=List.mem_iff_getElem.1 hx
 exact h j hj hj
def placeV(i n:Nat):Int:=if i<n then(i:Int)else -1
theorem place_at{α:Type}{l:List α}{p:α→Bool}{k:Nat}(h:NoB l p k)(hk:k<l.length)(hp:p l[k]=true):placeV (l.findIdx p) l.length=k:=by
 rw[noB_at h hk hp];unfold placeV;rw[if_pos hk]
theorem place_none{α:Type}{l:List α}{p:α→Bool}(h:NoB l p l.length):placeV (l.findIdx p) l.length= -1:=by
 rw[noB_none h];unfold placeV;rw[if_neg (by omega)]
set_option maxHeartbeats 2000000 in
theorem freeName_any(s:ByteArray)(w:World)(hs:s.size≤maxLen):
  Calls Tryd.prog 47 #[.string s] w fun e w' =>e= .returned (.int .i64 (freeE s))∧Below w.heap.size w w' :=by
 have HN:=Lib.hid (fun wx=>nameFault_any s wx hs)
 have HK:Hid (∀ wx,Calls Tryd.prog 23 #[.string s] wx fun e w' =>e= .returned (.bool (keptB s))∧Below wx.heap.size wx w'):=fun wx=>by rw[kept_same];exact keptWord_any s wx
 by_cases h0:nameE s=0
 ·have HF:Hid (freeE s=if keptB s=true then 4 else 0):=by show _=_;unfold freeE;rw[if_pos h0]
  rw[HF.out]
  rw[h0]at HN
  generalize keptB s=k at HK
  clear h0 HF hs
  cases k
  ·go_enter Tryd.func47,Tryd.ntmps47
   go_wp2_with (first|(go_at_call 44;refine(HN.out _).mono ?_;rintro e w1 ⟨rfl,hb1⟩)|(go_at_call 23;refine(HK.out _).mono ?_;rintro e w2 ⟨rfl,hb2⟩))
   go_ret
   exact⟨rfl,(by repeat(assumption))⟩
  ·go_enter Tryd.func47,Tryd.ntmps47
   go_wp2_with (first|(go_at_call 44;refine(HN.out _).mono ?_;rintro e w1 ⟨rfl,hb1⟩)|(go_at_call 23;refine(HK.out _).mono ?_;rintro e w2 ⟨rfl,hb2⟩))
   go_ret
   exact⟨rfl,(by repeat(assumption))⟩
 ·have HF:Hid (freeE s=nameE s):=by show _=_;unfold freeE;rw[if_neg h0]
  rw[HF.out]
  have h0b:(nameE s==0)=false:=by simpa using h0
  clear h0 HF hs
  generalize nameE s=q at HN h0b
  go_enter Tryd.func47,Tryd.ntmps47
  go_wp2_with (go_at_call 44;refine(HN.out _).mono ?_;rintro e w1 ⟨rfl,hb1⟩)
  go_ret
  exact⟨rfl,(by repeat(exact Below.refl _ _))⟩
section
variable {g:Nat} {F:Nat→Prop} {ao:Option Addr} {n cap:Nat} {w:World}
set_option maxHeartbeats 2000000 in
theorem typeNamed_any(hg:g<w.heap.size){ts:List Typ}(hX:SlF F w 2 typF ao n cap ts)(nm:ByteArray):
  Calls Tryd.prog 24 #[.slice ao n cap,.string nm] w fun e w' =>e= .returned (.int .i64 (placeV (typI ts nm) ts.length))∧Below w.heap.size w w' :=by
 have NL:Hid (n=ts.length):=hX.len
 have hle:=hX.le
 have M:=Mem.begin hg ⟨0,0⟩
 have HX:=Lib.hid hX
 clear hX hg
 go_enter Tryd.func24,Tryd.ntmps24
 go_wp2_with fail
 go_loopw [5] (fun i wr=> ∃ k:Nat,k≤n∧i= .int .i64 k∧Mem (StaysB g w) g w wr ⟨0,0⟩ []∧Hid (NoB ts (fun t=>sameS t.name nm) k)) (fun i _=>n - (intOf i).toNat)
 case atStart=>exact⟨0,by omega,rfl,M,noB_zero _ _⟩
 case round=>
  clear M
  obtain⟨k,hk,rfl,M,HB⟩:=hrel
  by_cases hlt:k<n
  ·have hkl:k<ts.length:=by have:=NL.out;omega
   obtain⟨ca,oa,rowa,hixa, -,hrra,hwa⟩:=SlF.rowAt (P:=Tryd.prog) HX.out typF_firm Tryd.underlying22 size_typ (i:=k) hkl
   obtain⟨p1,q1,s1,ea,u1⟩:=hrra
   subst ea
   have HA0:Hid (∀ wx,Below w.heap.size w wx→wx.cell? ⟨ca,oa,none⟩=some (.string ts[k].name)):=fun wx hb=>(hwa wx hb).1 0 _ rfl
   have HP:Hid (∀ b,sameS ts[k].name nm=b→(ts[k].name.toList==nm.toList)=b):=fun b h=>h
   have HS:Hid (sameS ts[k].name nm=true→placeV (typI ts nm) ts.length=k):=fun h=>place_at HB.out hkl h
   have HT:Hid (sameS ts[k].name nm=false→NoB ts (fun t=>sameS t.name nm) (k+1)):=fun h=>noB_succ HB.out hkl h
   clear hwa u1 HB
   generalize ts[k].name=tn at HA0 HP HS HT
   cases hsm:sameS tn nm with
   |true=>
    have hq:=HP.out _ hsm
    have HV:=Lib.hid (HS.out hsm)
    clear HP HS HT hsm
    go_wp2_with (with_reducible refine wC (HA0.out _ M.new) ?_)
    go_ret
    rw[HV.out]
    exact⟨rfl,M.new⟩
   |false=>
    have hq:=HP.out _ hsm
    have HV:=Lib.hid (HT.out hsm)
    clear HP HS HT hsm
    go_wp2_with (with_reducible refine wC (HA0.out _ M.new) ?_)
    go_roundw
    case rel=>exact⟨k+1,by omega,by go_num,M,HV⟩
    case measure=>simp[intOf];omega
  ·have HV:Hid (placeV (typI ts nm) ts.length= -1):=by
    have e:k=ts.length:=by have:=NL.out;omega
    exact place_none (e▸HB.out)
   go_wp2
   go_ret
   rw[HV.out]
   exact⟨rfl,M.new⟩
set_option maxHeartbeats 2000000 in
theorem patternNamed_any(hg:g<w.heap.size){ts:List Pat}(hX:SlF F w 18 patF ao n cap ts)(nm:ByteArray):
  Calls Tryd.prog 72 #[.slice ao n cap,.string nm] w fun e w' =>e= .returned (.int .i64 (placeV (patI ts nm) ts.length))∧Below w.heap.size w w' :=by
 have NL:Hid (n=ts.length):=hX.len
 have hle:=hX.le
 have M:=Mem.begin hg ⟨0,0⟩
 have HX:=Lib.hid hX
 clear hX hg
 go_enter Tryd.func72,Tryd.ntmps72
 go_wp2_with fail
 go_loopw [5] (fun i wr=> ∃ k:Nat,k≤n∧i= .int .i64 k∧Mem (StaysB g w) g w wr ⟨0,0⟩ []∧Hid (NoB ts (fun t=>sameS t.var nm) k)) (fun i _=>n - (intOf i).toNat)
 case atStart=>exact⟨0,by omega,rfl,M,noB_zero _ _⟩
 case round=>
  clear M
  obtain⟨k,hk,rfl,M,HB⟩:=hrel
  by_cases hlt:k<n
  ·have hkl:k<ts.length:=by have:=NL.out;omega
   obtain⟨ca,oa,rowa,hixa, -,hrra,hwa⟩:=SlF.rowAt (P:=Tryd.prog) HX.out patF_firm Tryd.underlying43 size_pat (i:=k) hkl
   obtain⟨p1,q1,s1,ea,u1⟩:=hrra
   subst ea
   have HA0:Hid (∀ wx,Below w.heap.size w wx→wx.cell? ⟨ca,oa,none⟩=some (.string ts[k].var)):=fun wx hb=>(hwa wx hb).1 0 _ rfl
   have HP:Hid (∀ b,sameS ts[k].var nm=b→(ts[k].var.toList==nm.toList)=b):=fun b h=>h
   have HS:Hid (sameS ts[k].var nm=true→placeV (patI ts nm) ts.length=k):=fun h=>place_at HB.out hkl h
   have HT:Hid (sameS ts[k].var nm=false→NoB ts (fun t=>sameS t.var nm) (k+1)):=fun h=>noB_succ HB.out hkl h
   clear hwa u1 HB
   generalize ts[k].var=tn at HA0 HP HS HT
   cases hsm:sameS tn nm with
   |true=>
    have hq:=HP.out _ hsm
    have HV:=Lib.hid (HS.out hsm)
    clear HP HS HT hsm
    go_wp2_with (with_reducible refine wC (HA0.out _ M.new) ?_)
    go_ret
    rw[HV.out]
    exact⟨rfl,M.new⟩
   |false=>
    have hq:=HP.out _ hsm
    have HV:=Lib.hid (HT.out hsm)
    clear HP HS HT hsm
    go_wp2_with (with_reducible refine wC (HA0.out _ M.new) ?_)
    go_roundw
    case rel=>exact⟨k+1,by omega,by go_num,M,HV⟩
    case measure=>simp[intOf];omega
  ·have HV:Hid (placeV (patI ts nm) ts.length= -1):=by
    have e:k=ts.length:=by have:=NL.out;omega
    exact place_none (e▸HB.out)
   go_wp2
   go_ret
   rw[HV.out]
   exact⟨rfl,M.new⟩
end
end Go.Proofs.YtcebfkdhicbmkaaDoor
