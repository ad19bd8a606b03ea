/-
  The walk of watch: is a tuple blocked? Printed by wab.py.
-/
import Derived.Test.YtfahleafppfkaaaGreatDoorWf33
namespace Go.Proofs.YtfahleafppfkaaaGreatDoor
open Go.RowKit
set_option linter.unusedVariables false
set_option linter.unusedSimpArgs false
section
variable {F:Nat→Prop} {w0:World} {zg:Nat} {v:GA} {b:Bok} {rule:Nat} {R:Rul} {tuple all:List Eve}
theorem Grd.cell(h:Grd F w0 zg v b rule R tuple all){i:Nat}{c:Value}(hi:[Value.slice v.a1 v.n1 v.c1,.slice v.a2 v.n2 v.c2,.int .i64 rule,.slice v.a3 v.n3 v.c3,.slice v.a4 v.n4 v.c4][i]?=some c): ∀ wx,Below w0.heap.size w0 wx→wx.cell? ⟨zg,i,none⟩=some c:=keep_cell h.lt (by have:=h.cells i c hi;simpa using this)
theorem Grd.bk(h:Grd F w0 zg v b rule R tuple all): ∀ wx,Below w0.heap.size w0 wx→wx.rangeAt zg 0 [.slice v.a1 v.n1 v.c1,.slice v.a2 v.n2 v.c2]:=keep_range h.lt (range_part h.cells 0 _ rfl)
theorem Grd.takes(h:Grd F w0 zg v b rule R tuple all){part:Int}(hp:part=1∨part=2){k:Nat}(hk:k<(partL R part).length){x:Eve}{p:Option Addr}{q r:Nat}(hx:eventE b.types x.e x.vals=0)(hxo:eveOk x)(hxv:SlF (under w0.heap.size) w0 3 (plainF valC) p q r x.vals):
  Calls Tryz.prog 37 #[.agg #[.slice v.a1 v.n1 v.c1,.slice v.a2 v.n2 v.c2],.int .i64 rule,.int .i64 part,.int .i64 k,.agg #[.int .i64 x.e.number,.int .i64 x.e.type,.int .i64 x.e.start,.int .i64 x.e.stop,.slice p q r],.slice v.a3 v.n3 v.c3] w0 fun e w' =>e= .returned (.tuple #[.bool (takenB b.types R.whens tuple x ((partL R part).getD k pat0)),.int .i64 0])∧Below w0.heap.size w0 w' :=by
 obtain⟨h1,h2⟩:=h.rl
 have e:=takes_any (Nat.lt_of_lt_of_le h.env.lt (Nat.le_refl _)) h.env h.far b v.a1 v.n1 v.c1 v.a2 v.n2 v.c2 h.types h.rules h.okT h.okR h.okE x p q r hxv hxo v.a3 v.n3 v.c3 tuple h.tup h.okU (by have:=h.tup.len;have:=h.may.len;have:=h.few.1;omega) rule part k
 rw[takes_tup h.book h1 hp (by rw[h2 h1];exact hk) (by rw[h2 h1];exact h.may) hx (fun i hi=>h.evU _ (List.getElem_mem hi)),h2 h1]at e
 exact e
set_option maxRecDepth 8000 in
set_option maxHeartbeats 8000000 in
theorem blocked_any(G:Grd F w0 zg v b rule R tuple all):
  Calls Tryz.prog 24 #[.pointer (some ⟨zg,0,none⟩)] w0 fun e w' =>e= .returned (.bool (blockedB b.types R tuple all))∧Below w0.heap.size w0 w' :=by
 have M:=Mem.begin G.lt ⟨0,0⟩
 obtain⟨cr,or,b1,m1,e1,b2,m2,e2,b3,m3,e3,b4,m4,e4,b6,m6,e6,hixr,hRr,Y1,Y2,Y3,Y4⟩:=G.rule0
 have HR2:Hid (∀ wx,Below w0.heap.size w0 wx→wx.cell? ⟨cr,or+2,none⟩=some (.slice b2 m2 e2)):=fun wx hb=>(hRr wx hb) 2 _ rfl
 have HGB:=Lib.hid G.bk
 have HG1:=Lib.hid (G.cell (i:=1) rfl)
 have HG2:=Lib.hid (G.cell (i:=2) rfl)
 have HG3:=Lib.hid (G.cell (i:=3) rfl)
 have HG4:=Lib.hid (G.cell (i:=4) rfl)
 have HY2:=Lib.hid Y2
 have hle2:=Y2.le
 have N2:Hid (m2=R.nots.length):=Y2.len
 have HX4:=Lib.hid G.alls
 have hle4:=G.alls.le
 have N4:Hid (v.n4=all.length):=G.alls.len
 have HIN:Hid (∀ wx zx x,Below w0.heap.size w0 wx→zx<wx.heap.size→wx.cell? ⟨zx,0,none⟩=some (.int .i64 x.e.number)→Calls Tryz.prog 35 #[.slice v.a3 v.n3 v.c3,.func (Fn.func 43) #[] #[.pointer (some ⟨zx,0,none⟩)]] wx fun e w' =>e= .returned (.bool (inT tuple x))∧Below wx.heap.size wx w'):=fun wx zx x hb hz hc=>
  conEve hz (G.below hb).tup (fun y=>y.e.number==x.e.number) zx (fun y _ so sn sc wy hby=>numEq_any (Nat.lt_of_lt_of_le hz hby.size) y so sn sc zx x.e.number (Nat.lt_of_lt_of_le hz hby.size) (keep_cell hz hc wy hby))
 have HLK:Hid (∀ wx nm (x:Eve) (p:Option Addr) (q r:Nat),Below w0.heap.size w0 wx→eventE b.types x.e x.vals=0→Calls Tryz.prog 44 #[.pointer (some ⟨zg,0,none⟩),.string nm,.agg #[.int .i64 x.e.number,.int .i64 x.e.type,.int .i64 x.e.start,.int .i64 x.e.stop,.slice p q r]] wx fun e w' =>e= .returned (.bool (linkedG R tuple nm x))∧Below wx.heap.size wx w'):=fun wx nm x p q r hb hx=>linked_any (G.below hb) nm x p q r hx
 have HTK:Hid (∀ wx (k:Nat) (x:Eve) (p:Option Addr) (q r:Nat),Below w0.heap.size w0 wx→k<R.nots.length→eventE b.types x.e x.vals=0→eveOk x→SlF (under w0.heap.size) w0 3 (plainF valC) p q r x.vals→Calls Tryz.prog 37 #[.agg #[.slice v.a1 v.n1 v.c1,.slice v.a2 v.n2 v.c2],.int .i64 rule,.int .i64 1,.int .i64 k,.agg #[.int .i64 x.e.number,.int .i64 x.e.type,.int .i64 x.e.start,.int .i64 x.e.stop,.slice p q r],.slice v.a3 v.n3 v.c3] wx fun e w' =>e= .returned (.tuple #[.bool (takenB b.types R.whens tuple x ((partL R 1).getD k pat0)),.int .i64 0])∧Below wx.heap.size wx w'):=fun wx k x p q r hb hk hx hxo hxv=>
  (G.below hb).takes (.inl rfl) (by exact hk) hx hxo ((hxv.below (plainF_firm _) hb).wide (plainF_firm _) (fun c hc _=>Nat.lt_of_lt_of_le hc hb.size))
 have HEA:=Lib.hid G.evA
 have HOA:=Lib.hid G.okA
 have HBS:Hid (∀ i (hi:i<R.nots.length),all.any (blockB b.types R tuple R.nots[i])=true→blockedB b.types R tuple all=true):=fun i hi h=>List.any_eq_true.2 ⟨_,List.getElem_mem hi,h⟩
 have HBE:Hid (NoB R.nots (fun p=>all.any (blockB b.types R tuple p)) R.nots.length→blockedB b.types R tuple all=false):=fun h=>by
  refine List.any_eq_false.2 fun p hp=>?_
  obtain⟨i,hi,rfl⟩:=List.mem_iff_getElem.1 hp
  simp[h i hi hi]
 clear G Y1 Y2 Y3 Y4 hRr
 generalize blockedB b.types R tuple all=T at HBS HBE ⊢
 go_enter Tryz.func24,Tryz.ntmps24
 go_wp2_with (with_reducible (first|refine wq M ?_|(refine wS M ?_;clear M;intro w M)|(refine wV M ?_;clear M;intro z w M)|(refine wR M ?_;clear M;intro q w M)))
 ((refine wp_region_calm M (by kernel_rfl) (by kernel_rfl) ?_);(repeat((with_reducible refine c_list rfl fun K hK=>?_);(first|(refine c_load (l' :=?_) ⟨_,M⟩ (fun w M=>?_) ?_;rotate_left;focus((first|(refine q_cellat (HG1.out _ M.new) ?_)|(refine q_cellat (HG2.out _ M.new) ?_)|(refine q_cellat (HR2.out _ M.new) ?_));refine⟨rfl,?_⟩;with_reducible rfl))|(refine c_pure (v:=?_) (fun w=>?_) ?_;rotate_left;focus(go_simp;try with_reducible rfl)));(try go_simp);with_reducible refine hK _ ?_;clear hK K));(refine wpQuiet_nil ?_);clear M;intro w M)
 go_wp2_with (with_reducible (first|refine wq M ?_|(refine wS M ?_;clear M;intro w M)|(refine wV M ?_;clear M;intro z w M)|(refine wR M ?_;clear M;intro q w M)))
 go_loopg [22] m2 (fun f i wr=> ∃ (j:Nat),j+f=m2∧i= .int .i64 j∧Mem (StaysB zg w0) zg w0 wr ⟨0,0⟩ []∧Hid (NoB R.nots (fun p=>all.any (blockB b.types R tuple p)) j))
 case atStart=>exact⟨0,by omega,rfl,M,noB_zero _ _⟩
 case round=>
  clear M
  obtain⟨i,hj,rfl,M,HB⟩:=hrel
  by_cases hlt:i<m2
  ·have hkl:i<R.nots.length:=by have:=N2.out;omega
   obtain⟨ca,oa,rowa,hixa, -,hrra,hwa⟩:=SlF.rowAt (P:=Tryz.prog) HY2.out patF_firm Tryz.underlying53 size_pat (i:=i) hkl
   obtain⟨so,sn,sc,ea, -⟩:=hrra
   subst ea
   have HRP:=Lib.hid (fun wx hb=>(hwa wx hb).1)
   have HBS2:=Lib.hid (HBS.out i hkl)
   have HB2:Hid (all.any (blockB b.types R tuple R.nots[i])=false→NoB R.nots (fun p=>all.any (blockB b.types R tuple p)) (i+1)):=fun h=>noB_succ HB.out hkl h
   have HTP:Hid ((partL R 1).getD i pat0=R.nots[i]):=by show _=_;unfold partL;simp[List.getD,List.getElem?_eq_getElem hkl]
   have HKL:=Lib.hid hkl
   clear hwa HB
   generalize R.nots[i]=P at HRP HBS2 HB2 HTP
   clear hkl
   unfold patC cndC opdC at HRP
   simp only[List.cons_append,List.nil_append]at HRP
   go_wp2_with (with_reducible (first|(refine wS M ?_;clear M;intro w M)|(refine wV M ?_;clear M;intro z w M)|refine wA (HRP.out _ M.new) ?_|refine wC (HG4.out _ M.new) ?_))
   go_loopg [32] v.n4 (fun f ii wr=> ∃ (j:Nat) (zP:Nat),j+f=v.n4∧ii= .int .i64 j∧Mem (StaysB zg w0) zg w0 wr ⟨0,0⟩ (own z [.string P.var,.string P.type,.int .i64 P.wher.kind,.slice so sn sc,.int .i64 P.wher.left.kind,.int .i64 P.wher.left.vkind,.int .i64 P.wher.left.vint,.string P.wher.left.vtext,.string P.wher.left.var,.string P.wher.left.field,.int .i64 P.wher.right.kind,.int .i64 P.wher.right.vkind,.int .i64 P.wher.right.vint,.string P.wher.right.vtext,.string P.wher.right.var,.string P.wher.right.field,.int .i64 P.window,.int .i64 P.n] 78::[])∧Hid (NoB all (blockB b.types R tuple P) j))
   case atStart=>exact⟨0,0,by omega,rfl,M,noB_zero _ _⟩
   case round=>
    clear M
    obtain⟨j, -,hj2,rfl,M,HN⟩:=hrel
    by_cases hlt2:j<v.n4
    ·have hal:j<all.length:=by have:=N4.out;omega
     obtain⟨cx,ox,rowx,hixx, -,hrrx,hwx⟩:=SlF.rowAt (P:=Tryz.prog) HX4.out eveF_firm Tryz.underlying26 size_eve (i:=j) hal
     obtain⟨px,qx,rx,ex,ux⟩:=hrrx
     subst ex
     have HRX:=Lib.hid (fun wx hb=>(hwx wx hb).1)
     have HEX:=Lib.hid (HEA.out _ (List.getElem_mem hal))
     have HTK2:=Lib.hid (fun wx hb=>HTK.out wx i all[j] px qx rx hb HKL.out HEX.out (HOA.out _ (List.getElem_mem hal)) ux)
     have HIN2:=Lib.hid (fun wx zx hb=>HIN.out wx zx all[j] hb)
     have HLK2:=Lib.hid (fun wx hb=>HLK.out wx P.var all[j] px qx rx hb HEX.out)
     have HS:Hid (blockB b.types R tuple P all[j]=true→T=true):=fun h=>HBS2.out (List.any_eq_true.2 ⟨_,List.getElem_mem hal,h⟩)
     have HN2:Hid (blockB b.types R tuple P all[j]=false→NoB all (blockB b.types R tuple P) (j+1)):=fun h=>noB_succ HN.out hal h
     have hbb:blockB b.types R tuple P all[j]=(!inT tuple all[j]&&(takenB b.types R.whens tuple all[j] P&&linkedG R tuple P.var all[j])):=rfl
     rw[hbb]at HS HN2
     rw[HTP.out]at HTK2
     clear hwx ux HN hbb
     generalize inT tuple all[j]=iT at HIN2 HS HN2
     generalize takenB b.types R.whens tuple all[j] P=tB at HTK2 HS HN2
     generalize linkedG R tuple P.var all[j]=lB at HLK2 HS HN2
     generalize all[j]=x at HRX HEX HTK2 HIN2 HLK2
     clear hal HEX
     cases iT with
     |true=>
      have HV:=Lib.hid (HN2.out rfl)
      clear HN2 HS
      go_wp2_with (first|(with_reducible (first|(refine wV M ?_;clear M;intro zX w M)|(refine wS M ?_;clear M;intro w M)|refine wA (HRX.out _ M.new) ?_|refine wC (HG3.out _ M.new) ?_|refine w_ (q_funcs _ ?_)))|(go_at_call 35;with_reducible refine(HIN2.out _ _ M.new (M.lt0 (i:=0) rfl) (M.cell0 (i:=0) rfl)).mono ?_;rintro e w5 ⟨rfl,hb5⟩;replace M:=M.below hb5;clear hb5))
      go_roundg (v.n4 - (j+1))
      case measure=>omega
      case rel=>exact⟨j+1,0,by omega,by go_num,M.drop,HV⟩
     |false=>
      go_wp2_with (first|(with_reducible (first|(refine wV M ?_;clear M;intro zX w M)|(refine wS M ?_;clear M;intro w M)|refine wA (HRX.out _ M.new) ?_|refine wC (HG3.out _ M.new) ?_|refine w_ (q_funcs _ ?_)))|(go_at_call 35;with_reducible refine(HIN2.out _ _ M.new (M.lt0 (i:=0) rfl) (M.cell0 (i:=0) rfl)).mono ?_;rintro e w5 ⟨rfl,hb5⟩;replace M:=M.below hb5;clear hb5))
      ((refine wp_region_calm M (by kernel_rfl) (by kernel_rfl) ?_);(repeat((with_reducible refine c_list rfl fun K hK=>?_);(first|(refine c_load (l' :=?_) ⟨_,M⟩ (fun w M=>?_) ?_;rotate_left;focus((first|(refine q_at (HGB.out _ M.new) (by rfl) ?_)|(refine q_cellat (HG2.out _ M.new) ?_)|(refine q_cellat (HG3.out _ M.new) ?_)|refine q_all M (by rfl) ?_);refine⟨rfl,?_⟩;with_reducible rfl))|(refine c_call (n:=37) (args:=?_) (v:=?_) (fun w=>?_) (fun w M=>?_) ?_;rotate_left 2;(focus(go_simp;try with_reducible rfl));(focus(with_reducible refine(HTK2.out _ M.new).mono ?_;rintro e w5 ⟨rfl,hb5⟩;refine⟨?_,M.below hb5⟩;with_reducible rfl)))|(refine c_pure (v:=?_) (fun w=>?_) ?_;rotate_left;focus(go_simp;try with_reducible rfl)));(try go_simp);with_reducible refine hK _ ?_;clear hK K));(refine wpQuiet_nil ?_);clear M;intro w M)
      cases tB with
      |false=>
       have HV:=Lib.hid (HN2.out (by simp))
       clear HN2 HS
       go_wp2_with (with_reducible (first|refine wq M ?_|(refine wS M ?_;clear M;intro w M)|(refine wV M ?_;clear M;intro z w M)|(refine wR M ?_;clear M;intro q w M)))
       go_roundg (v.n4 - (j+1))
       case measure=>omega
       case rel=>exact⟨j+1,0,by omega,by go_num,M.drop,HV⟩
      |true=>
       cases lB with
       |false=>
        have HV:=Lib.hid (HN2.out rfl)
        clear HN2 HS
        go_wp2_with (first|(with_reducible refine wq M ?_)|(go_at_call 44;with_reducible refine(HLK2.out _ M.new).mono ?_;rintro e w5 ⟨rfl,hb5⟩;replace M:=M.below hb5;clear hb5))
        go_roundg (v.n4 - (j+1))
        case measure=>omega
        case rel=>exact⟨j+1,0,by omega,by go_num,M.drop,HV⟩
       |true=>
        have HV:=Lib.hid (HS.out rfl)
        clear HN2 HS
        go_wp2_with (first|(with_reducible refine wq M ?_)|(go_at_call 44;with_reducible refine(HLK2.out _ M.new).mono ?_;rintro e w5 ⟨rfl,hb5⟩;replace M:=M.below hb5;clear hb5))
        go_ret
        rw[HV.out]
        exact⟨rfl,M.new⟩
    ·have hje:j=all.length:=by have:=N4.out;omega
     have HV:=Lib.hid (HB2.out (by
      refine List.any_eq_false.2 fun x hx=>?_
      obtain⟨i2,hi2,rfl⟩:=List.mem_iff_getElem.1 hx
      simp[HN.out i2 hi2 (by omega)]))
     clear HN HB2 HBS2
     go_wp2_with (with_reducible (first|refine wq M ?_|(refine wS M ?_;clear M;intro w M)|(refine wV M ?_;clear M;intro z w M)|(refine wR M ?_;clear M;intro q w M)))
     go_roundg (m2 - (i+1))
     case measure=>omega
     case rel=>exact⟨i+1,by omega,by go_num,M.drop,HV⟩
  ·have hje:i=R.nots.length:=by have:=N2.out;omega
   have HV:=Lib.hid (HBE.out (hje▸HB.out))
   clear HB
   go_wp2_with (with_reducible (first|refine wq M ?_|(refine wS M ?_;clear M;intro w M)|(refine wV M ?_;clear M;intro z w M)|(refine wR M ?_;clear M;intro q w M)))
   go_ret
   rw[HV.out]
   exact⟨rfl,M.new⟩
end
end Go.Proofs.YtfahleafppfkaaaGreatDoor
/-
  The walk of watch: are there enough? Printed by wae.py.
-/
namespace Go.Proofs.YtfahleafppfkaaaGreatDoor
open Go.RowKit
set_option linter.unusedVariables false
set_option linter.unusedSimpArgs false
theorem wrap_w(x:Int):IntKind.i64.wrap x=wrap64 x:=by unfold wrap64 IntKind.wrap;simp[IntKind.signed,IntKind.bits];omega
theorem nameE_full{s:ByteArray}(h:nameE s=0):emS s=false:=by
 unfold nameE at h
 split at h
 ·rename_i hs
  cases he:emS s with
  |false=>rfl
  |true=>
   have h2:s.toList=[]:=by simpa[emS]using he
   have:=(size_toList s).1 h2
   omega
 ·exact absurd h (by decide)
theorem fld_named{t:Typ}(h:typE t.name t.fields=0){nm:ByteArray}(he:emS nm=true): ¬ fldAt t.fields nm<t.fields.length:=fun hlt=>by
 have hf:sameS (t.fields[fldAt t.fields nm]'hlt).name nm=true:=List.findIdx_getElem (p:=fun f:Fld=>sameS f.name nm) (xs:=t.fields) (w:=hlt)
 unfold typE at h
 by_cases h1:nameE t.name=0
 ·rw[if_pos h1]at h
  by_cases h2:t.fields.length≤4
  ·rw[if_pos h2]at h
   have h3:=firstN_all h _ hlt
   unfold fldE at h3
   rw[show t.fields.getD (fldAt t.fields nm) default=t.fields[fldAt t.fields nm]by simp[List.getD,List.getElem?_eq_getElem hlt]]at h3
   by_cases h4:nameE (t.fields[fldAt t.fields nm]'hlt).name=0
   ·have h5:=nameE_full h4
    unfold emS at h5 he
    rw[sameS_toL hf]at h5
    rw[he]at h5
    cases h5
   ·rw[if_neg h4]at h3;exact h4 h3
  ·rw[if_neg h2]at h;exact absurd h (by decide)
 ·rw[if_neg h1]at h;exact absurd h h1
theorem typ_zero{b:Bok}(h:bookE b=0){t:Nat}(ht:t<b.types.length):typE b.types[t].name b.types[t].fields=0:=by
 unfold bookE at h
 by_cases h0:6<b.types.length∨5<b.rules.length
 ·rw[if_pos h0]at h;exact absurd h (by decide)
 rw[if_neg h0]at h
 by_cases h1:firstN (btypE b) b.types.length≠0
 ·rw[if_pos h1]at h;exact absurd h h1
 have hb:=firstN_all (Classical.not_not.1 h1) t ht
 unfold btypE at hb
 rw[show b.types.getD t typ0=b.types[t]by simp[List.getD,List.getElem?_eq_getElem ht]]at hb
 by_cases c1:typE b.types[t].name b.types[t].fields≠0
 ·rw[if_pos c1]at hb;exact absurd hb c1
 ·exact Classical.not_not.1 c1
theorem many_field{b:Bok}(h0:bookE b=0){R:Rul}(hz:ruleE b.types R=0){i:Nat}(hi:i<R.manies.length):
  (emS R.manies[i].field=true∧ ¬ fldAt (typAt b.types R.manies[i].pat.type).fields R.manies[i].field<(typAt b.types R.manies[i].pat.type).fields.length)∨
  (emS R.manies[i].field=false∧fldAt (typAt b.types R.manies[i].pat.type).fields R.manies[i].field<(typAt b.types R.manies[i].pat.type).fields.length):=by
 obtain⟨-, -,ht,hs⟩:=many_win hz hi
 have hT:typAt b.types R.manies[i].pat.type=b.types[typI b.types R.manies[i].pat.type]:=by unfold typAt;simp[List.getD,List.getElem?_eq_getElem ht]
 cases he:emS R.manies[i].field with
 |true=>exact .inl ⟨rfl,by rw[hT];exact fld_named (typ_zero h0 ht) he⟩
 |false=>
  right
  refine⟨rfl,?_⟩
  unfold sumE at hs
  rw[if_neg (by rw[he];simp)]at hs
  by_cases hf:fldAt (typAt b.types R.manies[i].pat.type).fields R.manies[i].field<(typAt b.types R.manies[i].pat.type).fields.length
  ·exact hf
  ·rw[if_neg hf]at hs;exact absurd hs (by decide)
theorem typ_few{t:Typ}(h:typE t.name t.fields=0):t.fields.length≤4:=by
 unfold typE at h
 by_cases h1:nameE t.name=0
 ·rw[if_pos h1]at h
  by_cases h2:t.fields.length≤4
  ·exact h2
  ·rw[if_neg h2]at h;exact absurd h (by decide)
 ·rw[if_neg h1]at h;exact absurd h h1
theorem Mem.cell_{At:PS→World→Prop}{b:Nat}{u w:World}{s:PS}{L:List Ent}{i k z:Nat}{c:Value}{cs:List Value}{t:TypeId}(M:Mem At b u w s L)(hi:L[i]?=some (own z cs t))(hk:cs[k]?=some c):w.cell? ⟨z,k,none⟩=some c:=by
 have:=(M.cells_ hi) k c hk
 simpa using this
theorem lastE_in{l:List Eve}(h: ∀ x∈l,0≤x.e.stop∧x.e.stop≤1099511627776):0≤lastE l∧lastE l≤1099511627776:=by
 unfold lastE
 have: ∀ (l:List Eve) (n:Int),(∀ x∈l,0≤x.e.stop∧x.e.stop≤1099511627776)→0≤n∧n≤1099511627776→0≤l.foldl (fun n x=>if n<x.e.stop then x.e.stop else n) n∧l.foldl (fun n x=>if n<x.e.stop then x.e.stop else n) n≤1099511627776:=by
  intro l
  induction l with
  |nil=>intro n _ hn;exact hn
  |cons x l ih=>
   intro n h hn
   refine ih _ (fun y hy=>h y (List.mem_cons_of_mem _ hy)) ?_
   have:=h x (List.mem_cons_self ..)
   show 0≤(if n<x.e.stop then x.e.stop else n)∧(if n<x.e.stop then x.e.stop else n)≤1099511627776
   split<;>omega
 exact this l 0 h (by omega)
section
variable {F:Nat→Prop} {w0:World} {zg:Nat} {v:GA} {b:Bok} {rule:Nat} {R:Rul} {tuple all:List Eve}
set_option maxRecDepth 8000 in
set_option maxHeartbeats 8000000 in
theorem enough_any(G:Grd F w0 zg v b rule R tuple all):
  Calls Tryz.prog 25 #[.pointer (some ⟨zg,0,none⟩)] w0 fun e w' =>e= .returned (.bool (enoughB b.types R tuple all))∧Below w0.heap.size w0 w' :=by
 have M:=Mem.begin G.lt ⟨0,0⟩
 obtain⟨cr,or,b1,m1,e1,b2,m2,e2,b3,m3,e3,b4,m4,e4,b6,m6,e6,hixr,hRr,Y1,Y2,Y3,Y4⟩:=G.rule0
 have HR3:Hid (∀ wx,Below w0.heap.size w0 wx→wx.cell? ⟨cr,or+3,none⟩=some (.slice b3 m3 e3)):=fun wx hb=>(hRr wx hb) 3 _ rfl
 have HGB:=Lib.hid G.bk
 have HG0:=Lib.hid (G.cell (i:=0) rfl)
 have HG1:=Lib.hid (G.cell (i:=1) rfl)
 have HG2:=Lib.hid (G.cell (i:=2) rfl)
 have HG3:=Lib.hid (G.cell (i:=3) rfl)
 have HG4:=Lib.hid (G.cell (i:=4) rfl)
 have HY3:=Lib.hid Y3
 have hle3:=Y3.le
 have N3:Hid (m3=R.manies.length):=Y3.len
 have HX4:=Lib.hid G.alls
 have hle4:=G.alls.le
 have N4:Hid (v.n4=all.length):=G.alls.len
 have HX3:=Lib.hid G.tup
 have hleU:=G.tup.le
 have NU:Hid (v.n3=tuple.length):=G.tup.len
 have HX1:=Lib.hid G.types
 have HTK:Hid (∀ wx (k:Nat) (x:Eve) (p:Option Addr) (q r:Nat),Below w0.heap.size w0 wx→k<R.manies.length→eventE b.types x.e x.vals=0→eveOk x→SlF (under w0.heap.size) w0 3 (plainF valC) p q r x.vals→Calls Tryz.prog 37 #[.agg #[.slice v.a1 v.n1 v.c1,.slice v.a2 v.n2 v.c2],.int .i64 rule,.int .i64 2,.int .i64 k,.agg #[.int .i64 x.e.number,.int .i64 x.e.type,.int .i64 x.e.start,.int .i64 x.e.stop,.slice p q r],.slice v.a3 v.n3 v.c3] wx fun e w' =>e= .returned (.tuple #[.bool (takenB b.types R.whens tuple x ((partL R 2).getD k pat0)),.int .i64 0])∧Below wx.heap.size wx w'):=fun wx k x p q r hb hk hx hxo hxv=>
  (G.below hb).takes (.inr rfl) (by show k<(R.manies.map Many.pat).length;simpa using hk) hx hxo ((hxv.below (plainF_firm _) hb).wide (plainF_firm _) (fun c hc _=>Nat.lt_of_lt_of_le hc hb.size))
 have HEA:=Lib.hid G.evA
 have HOA:=Lib.hid G.okA
 have HEU:=Lib.hid G.evU
 have HZ:=Lib.hid G.zero
 have HB0:=Lib.hid G.book
 have HLB:Hid (0≤lastE tuple∧lastE tuple≤1099511627776):=lastE_in fun x hx=>(spanE_zero (span_of (HEU.out x hx))).2.1
 have HBS:Hid (∀ i (hi:i<R.manies.length),manyN b.types R tuple all R.manies[i]<R.manies[i].count→enoughB b.types R tuple all=false):=fun i hi h=>List.all_eq_false.2 ⟨_,List.getElem_mem hi,by simp[h]⟩
 have HBE:Hid (NoB R.manies (fun m=>decide (manyN b.types R tuple all m<m.count)) R.manies.length→enoughB b.types R tuple all=true):=fun h=>by
  refine List.all_eq_true.2 fun p hp=>?_
  obtain⟨i,hi,rfl⟩:=List.mem_iff_getElem.1 hp
  simpa using h i hi hi
 clear G Y1 Y2 Y3 Y4 hRr
 generalize enoughB b.types R tuple all=T at HBS HBE ⊢
 go_enter Tryz.func25,Tryz.ntmps25
 go_wp2_with (with_reducible refine wC (HG3.out _ M.new) ?_)
 go_loopg [3,20] v.n3 (fun f n i wr=> ∃ (j:Nat),j+f=v.n3∧n= .int .i64 (lastE (tuple.take j))∧i= .int .i64 j∧Mem (StaysB zg w0) zg w0 wr ⟨0,0⟩ [])
 case atStart=>exact⟨0,by omega,rfl,rfl,M⟩
 case round=>
  clear M
  obtain⟨j,hj,rfl,rfl,M⟩:=hrel
  by_cases hlt:j<v.n3
  ·have hal:j<tuple.length:=by have:=NU.out;omega
   obtain⟨cx,ox,rowx,hixx, -,hrrx,hwx⟩:=SlF.rowAt (P:=Tryz.prog) HX3.out eveF_firm Tryz.underlying26 size_eve (i:=j) hal
   obtain⟨px,qx,rx,ex,ux⟩:=hrrx
   subst ex
   have HRX:=Lib.hid (fun wx hb=>(hwx wx hb).1)
   have HLS:Hid (lastE (tuple.take (j+1))=_):=lastE_snoc hal
   clear hwx ux
   generalize tuple[j]=x at HRX HLS
   generalize lastE (tuple.take j)=ln at HLS ⊢
   clear hal
   go_wp2_with (with_reducible (first|(refine wV M ?_;clear M;intro zX w M)|refine wq M ?_|(refine wS M ?_;clear M;intro w M)|refine wA (HRX.out _ M.new) ?_))
   all_goals
    go_roundg (v.n3 - (j+1))
    case measure=>omega
    case rel=>exact⟨j+1,by omega,by rw[HLS.out];first|rfl|(congr 1;(repeat' split)<;>omega),by go_num,M.drop⟩
  ·have hje:tuple.take j=tuple:=List.take_of_length_le (by have:=NU.out;omega)
   rw[hje]
   obtain⟨last,hlast⟩: ∃ last,lastE tuple=last:=⟨_,rfl⟩
   rw[hlast]at HLB ⊢
   have HLA:=Lib.hid hlast
   clear hje hlast
   go_wp2_with (with_reducible (first|refine wq M ?_|(refine wS M ?_;clear M;intro w M)|(refine wV M ?_;clear M;intro z w M)|(refine wR M ?_;clear M;intro q w M)))
   ((refine wp_region_calm M (by kernel_rfl) (by kernel_rfl) ?_);(repeat((with_reducible refine c_list rfl fun K hK=>?_);(first|(refine c_load (l' :=?_) ⟨_,M⟩ (fun w M=>?_) ?_;rotate_left;focus((first|(refine q_cellat (HG1.out _ M.new) ?_)|(refine q_cellat (HG2.out _ M.new) ?_)|(refine q_cellat (HR3.out _ M.new) ?_));refine⟨rfl,?_⟩;with_reducible rfl))|(refine c_pure (v:=?_) (fun w=>?_) ?_;rotate_left;focus(go_simp;try with_reducible rfl)));(try go_simp);with_reducible refine hK _ ?_;clear hK K));(refine wpQuiet_nil ?_);clear M;intro w M)
   go_wp2_with (with_reducible (first|refine wq M ?_|(refine wS M ?_;clear M;intro w M)|(refine wV M ?_;clear M;intro z w M)|(refine wR M ?_;clear M;intro q w M)))
   go_loopg [43] m3 (fun f i wr=> ∃ (j:Nat),j+f=m3∧i= .int .i64 j∧Mem (StaysB zg w0) zg w0 wr ⟨0,0⟩ []∧Hid (NoB R.manies (fun m=>decide (manyN b.types R tuple all m<m.count)) j))
   case atStart=>exact⟨0,by omega,rfl,M,noB_zero _ _⟩
   case round=>
    clear M
    obtain⟨i,hj,rfl,M,HB⟩:=hrel
    by_cases hlt:i<m3
    ·have hkl:i<R.manies.length:=by have:=N3.out;omega
     obtain⟨ca,oa,rowa,hixa, -,hrra,hwa⟩:=SlF.rowAt (P:=Tryz.prog) HY3.out manF_firm Tryz.underlying54 size_man (i:=i) hkl
     obtain⟨so,sn,sc,ea, -⟩:=hrra
     subst ea
     have HRM:=Lib.hid (fun wx hb=>(hwa wx hb).1)
     obtain⟨hw0,hw1,hwt, -⟩:=many_win HZ.out hkl
     have HMF:=Lib.hid (many_field HB0.out HZ.out hkl)
     have HBS2:=Lib.hid (HBS.out i hkl)
     have HB2:Hid (¬ manyN b.types R tuple all R.manies[i]<R.manies[i].count→NoB R.manies (fun m=>decide (manyN b.types R tuple all m<m.count)) (i+1)):=fun h=>noB_succ HB.out hkl (by simpa using h)
     have HTP:Hid ((partL R 2).getD i pat0=R.manies[i].pat):=by show _=_;unfold partL;simp[List.getD,List.getElem?_eq_getElem hkl]
     have HKL:=Lib.hid hkl
     have HMN:Hid (∀ j (hj:j<all.length),(all.take (j+1)).foldl (manyS b.types R tuple R.manies[i]) 0=_):=fun j hj=>manyN_snoc hj
     clear hwa HB
     generalize R.manies[i]=m at HRM HMF HBS2 HB2 HTP HMN hw0 hw1 hwt
     clear hkl
     have hTm:typAt b.types m.pat.type=b.types[typI b.types m.pat.type]:=by unfold typAt;simp[List.getD,List.getElem?_eq_getElem hwt]
     obtain⟨ct,ot,rowt,hixt, -,hrrt,hwtt⟩:=SlF.rowAt (P:=Tryz.prog) HX1.out typF_firm Tryz.underlying22 size_typ (i:=typI b.types m.pat.type) hwt
     obtain⟨pf,qf,rf,et,uf⟩:=hrrt
     subst et
     rw[←hTm]at uf
     have HTF:Hid (∀ wx,Below w0.heap.size w0 wx→wx.cell? ⟨ct,ot+1,none⟩=some (.slice pf qf rf)):=fun wx hb=>(hwtt wx hb).1 1 _ rfl
     have HIT:Hid (∀ wx zm,Below w0.heap.size w0 wx→zm<wx.heap.size→wx.cell? ⟨zm,3,none⟩=some (.string m.pat.type)→Calls Tryz.prog 45 #[.slice v.a1 v.n1 v.c1,.func (Fn.func 46) #[] #[.pointer (some ⟨zm,0,none⟩)]] wx fun e w' =>e= .returned (.int .i64 (typI b.types m.pat.type:Nat))∧Below wx.heap.size wx w'):=fun wx zm hb hz hc=>by
      have h:=ixTyp hz (HX1.out.below typF_firm hb) (fun t=>sameS t.name m.pat.type) zm (fun t _ so sn sc wy hby=>typEq_any (Nat.lt_of_lt_of_le hz hby.size) t so sn sc zm m.pat.type (Nat.lt_of_lt_of_le hz hby.size) (keep_cell hz hc wy hby))
      rw[show placeV (b.types.findIdx fun t=>sameS t.name m.pat.type) b.types.length=(typI b.types m.pat.type:Nat)by unfold placeV;exact if_pos hwt]at h
      exact h
     have HIF:Hid (∀ wx zm,Below w0.heap.size w0 wx→zm<wx.heap.size→wx.cell? ⟨zm,1,none⟩=some (.string m.field)→Calls Tryz.prog 47 #[.slice pf qf rf,.func (Fn.func 48) #[] #[.pointer (some ⟨zm,0,none⟩)]] wx fun e w' =>e= .returned (.int .i64 (placeV (fldAt (typAt b.types m.pat.type).fields m.field) (typAt b.types m.pat.type).fields.length))∧Below wx.heap.size wx w'):=fun wx zm hb hz hc=>
      ixFld hz (uf.below (plainF_firm _) hb) (fun f=>sameS f.name m.field) zm (fun f _ wy hby=>fldEq_any (Nat.lt_of_lt_of_le hz hby.size) f zm m.field (Nat.lt_of_lt_of_le hz hby.size) (keep_cell hz hc wy hby))
     obtain⟨fi,hfi⟩: ∃ fi,placeV (fldAt (typAt b.types m.pat.type).fields m.field) (typAt b.types m.pat.type).fields.length=fi:=⟨_,rfl⟩
     rw[hfi]at HIF
     have HFI:=Lib.hid hfi
     have hib:(typI b.types m.pat.type:Int)≤9223372036854775807:=by have:=HX1.out.len;have:=HX1.out.le;omega
     clear hwtt hTm uf hfi
     generalize typI b.types m.pat.type=ti at hixt HIT hwt hib
     unfold manC patC cndC opdC at HRM
     simp only[List.cons_append,List.nil_append]at HRM
     go_wp2_with (first|(with_reducible (first|(refine wS M ?_;clear M;intro w M)|(refine wV M ?_;clear M;intro z w M)|refine wA (HRM.out _ M.new) ?_|refine wC (HG0.out _ M.new) ?_|refine wC (HTF.out _ M.new) ?_|refine wC (HG4.out _ M.new) ?_|refine w_ (q_funcs _ ?_)))|(go_at_call 45;with_reducible refine(HIT.out _ _ M.new (M.lt0 (i:=0) rfl) (M.cell_ (i:=0) (k:=3) rfl rfl)).mono ?_;rintro e w5 ⟨rfl,hb5⟩;replace M:=M.below hb5;clear hb5)|(go_at_call 47;with_reducible refine(HIF.out _ _ M.new (M.lt0 (i:=0) rfl) (M.cell_ (i:=0) (k:=1) rfl rfl)).mono ?_;rintro e w5 ⟨rfl,hb5⟩;replace M:=M.below hb5;clear hb5))
     go_loopg [8,71] v.n4 (fun f n ii wr=> ∃ (j:Nat),j+f=v.n4∧n= .int .i64 ((all.take j).foldl (manyS b.types R tuple m) 0)∧ii= .int .i64 j∧Mem (StaysB zg w0) zg w0 wr ⟨0,0⟩ (own z [.int .i64 m.count,.string m.field,.string m.pat.var,.string m.pat.type,.int .i64 m.pat.wher.kind,.slice so sn sc,.int .i64 m.pat.wher.left.kind,.int .i64 m.pat.wher.left.vkind,.int .i64 m.pat.wher.left.vint,.string m.pat.wher.left.vtext,.string m.pat.wher.left.var,.string m.pat.wher.left.field,.int .i64 m.pat.wher.right.kind,.int .i64 m.pat.wher.right.vkind,.int .i64 m.pat.wher.right.vint,.string m.pat.wher.right.vtext,.string m.pat.wher.right.var,.string m.pat.wher.right.field,.int .i64 m.pat.window,.int .i64 m.pat.n] 88::[]))
     case atStart=>exact⟨0,by omega,rfl,rfl,M⟩
     case round=>
      clear M
      obtain⟨j,hj2,rfl,rfl,M⟩:=hrel
      by_cases hlt2:j<v.n4
      ·have hal:j<all.length:=by have:=N4.out;omega
       obtain⟨cx,ox,rowx,hixx, -,hrrx,hwx⟩:=SlF.rowAt (P:=Tryz.prog) HX4.out eveF_firm Tryz.underlying26 size_eve (i:=j) hal
       obtain⟨px,qx,rx,ex,ux⟩:=hrrx
       subst ex
       have HRX:=Lib.hid (fun wx hb=>(hwx wx hb).1)
       have HEX:=Lib.hid (HEA.out _ (List.getElem_mem hal))
       have HTK2:=Lib.hid (fun wx hb=>HTK.out wx i all[j] px qx rx hb HKL.out HEX.out (HOA.out _ (List.getElem_mem hal)) ux)
       rw[HTP.out]at HTK2
       have HSN:=Lib.hid (HMN.out j hal)
       have HUX:=Lib.hid ux
       clear hwx ux
       generalize all[j]=x at HRX HEX HTK2 HSN HUX
       clear hal
       generalize (all.take j).foldl (manyS b.types R tuple m) 0=nn at HSN ⊢
       have hst:=(spanE_zero (span_of HEX.out)).2.1
       have hws:IntKind.i64.wrap (last - x.e.stop)=last - x.e.stop:=IntWalk.i64_in _ (by have:=HLB.out;omega)
       have HTV:Hid (takenB b.types R.whens tuple x m.pat=true→typAt b.types m.pat.type=evT b.types x):=fun h=>typAt_of HB0.out (evGood_of HEX.out) (by unfold takenB at h;simp only[Bool.and_eq_true]at h;exact h.1)
       have HM0:Hid (nearB last m.pat.n x=false→(all.take (j+1)).foldl (manyS b.types R tuple m) 0=nn):=fun h=>by rw[HSN.out];unfold manyS;rw[HLA.out,if_neg (by rw[h];simp)]
       have HM1:Hid (takenB b.types R.whens tuple x m.pat=false→(all.take (j+1)).foldl (manyS b.types R tuple m) 0=nn):=fun h=>by rw[HSN.out];unfold manyS;rw[if_neg (by rw[h];simp)]
       have HM2:Hid (nearB last m.pat.n x=true→takenB b.types R.whens tuple x m.pat=true→(all.take (j+1)).foldl (manyS b.types R tuple m) 0=IntKind.i64.wrap (nn+if emS m.field=true then 1 else(fldV b.types x m.field).int)):=fun h h' =>by rw[HSN.out];unfold manyS;rw[HLA.out,if_pos ⟨h,h'⟩]
       have hnb:nearB last m.pat.n x=!(decide (last<x.e.stop)||decide (m.pat.n<last - x.e.stop)):=rfl
       rw[hnb]at HM0 HM2
       replace hst:=Lib.hid hst
       replace hw0:=Lib.hid hw0
       replace hw1:=Lib.hid hw1
       clear hnb HSN
       obtain⟨c1,hc1⟩: ∃ c1,decide (last<x.e.stop)=c1:=⟨_,rfl⟩
       obtain⟨c2,hc2⟩: ∃ c2,decide (m.pat.n<last - x.e.stop)=c2:=⟨_,rfl⟩
       rw[hc1,hc2]at HM0 HM2
       cases c1 with
       |true=>
        have HV:=Lib.hid (HM0.out rfl)
        clear HM0 HM1 HM2 HTV
        go_wp2_with (with_reducible (first|(refine wV M ?_;clear M;intro zX w M)|refine wq M ?_|(refine wS M ?_;clear M;intro w M)|refine wA (HRX.out _ M.new) ?_))
        go_roundg (v.n4 - (j+1))
        case measure=>omega
        case rel=>exact⟨j+1,by omega,by rw[HV.out]<;>exact congrArg _ (wrap_w _).symm,by go_num,M.drop⟩
       |false=>
        cases c2 with
        |true=>
         have HV:=Lib.hid (HM0.out rfl)
         clear HM0 HM1 HM2 HTV
         go_wp2_with (with_reducible (first|(refine wV M ?_;clear M;intro zX w M)|refine wq M ?_|(refine wS M ?_;clear M;intro w M)|refine wA (HRX.out _ M.new) ?_))
         go_roundg (v.n4 - (j+1))
         case measure=>omega
         case rel=>exact⟨j+1,by omega,by rw[HV.out]<;>exact congrArg _ (wrap_w _).symm,by go_num,M.drop⟩
        |false=>
         clear HM0
         obtain⟨tB,hB⟩: ∃ tB,takenB b.types R.whens tuple x m.pat=tB:=⟨_,rfl⟩
         rw[hB]at HTK2 HTV HM1 HM2
         clear hB
         go_wp2_with (with_reducible (first|(refine wV M ?_;clear M;intro zX w M)|refine wq M ?_|(refine wS M ?_;clear M;intro w M)|refine wA (HRX.out _ M.new) ?_))
         ((refine wp_region_calm M (by kernel_rfl) (by kernel_rfl) ?_);(repeat((with_reducible refine c_list rfl fun K hK=>?_);(first|(refine c_load (l' :=?_) ⟨_,M⟩ (fun w M=>?_) ?_;rotate_left;focus((first|(refine q_at (HGB.out _ M.new) (by rfl) ?_)|(refine q_cellat (HG2.out _ M.new) ?_)|(refine q_cellat (HG3.out _ M.new) ?_)|refine q_all M (by rfl) ?_);refine⟨rfl,?_⟩;with_reducible rfl))|(refine c_call (n:=37) (args:=?_) (v:=?_) (fun w=>?_) (fun w M=>?_) ?_;rotate_left 2;(focus(go_simp;try with_reducible rfl));(focus(with_reducible refine(HTK2.out _ M.new).mono ?_;rintro e w5 ⟨rfl,hb5⟩;refine⟨?_,M.below hb5⟩;with_reducible rfl)))|(refine c_pure (v:=?_) (fun w=>?_) ?_;rotate_left;focus(go_simp;try with_reducible rfl)));(try go_simp);with_reducible refine hK _ ?_;clear hK K));(refine wpQuiet_nil ?_);clear M;intro w M)
         cases tB with
         |false=>
          have HV:=Lib.hid (HM1.out rfl)
          clear HM1 HM2 HTV
          go_wp2_with (with_reducible (first|refine wq M ?_|(refine wS M ?_;clear M;intro w M)|(refine wV M ?_;clear M;intro z w M)|(refine wR M ?_;clear M;intro q w M)))
          go_roundg (v.n4 - (j+1))
          case measure=>omega
          case rel=>exact⟨j+1,by omega,by rw[HV.out]<;>exact congrArg _ (wrap_w _).symm,by go_num,M.drop⟩
         |true=>
          have hty:=HTV.out rfl
          have hV0:=HM2.out rfl rfl
          rcases HMF.out with⟨he,hn⟩|⟨he,hn⟩
          ·rw[he,if_pos rfl]at hV0
           have HV:=Lib.hid hV0
           obtain rfl:fi= -1:=by rw[←HFI.out];unfold placeV;rw[if_neg hn]
           clear HM1 HM2 HTV hty hV0 he hn
           go_wp2_with (with_reducible (first|refine wq M ?_|(refine wS M ?_;clear M;intro w M)|(refine wV M ?_;clear M;intro z w M)|(refine wR M ?_;clear M;intro q w M)))
           go_roundg (v.n4 - (j+1))
           case measure=>omega
           case rel=>exact⟨j+1,by omega,by rw[HV.out]<;>exact congrArg _ (wrap_w _).symm,by go_num,M.drop⟩
          ·rw[he,if_neg (by simp)]at hV0
           have hJ:fldAt (typAt b.types m.pat.type).fields m.field<x.vals.length:=by rw[(evGood_of HEX.out).len,←hty];exact hn
           obtain rfl:fi=(fldAt (typAt b.types m.pat.type).fields m.field:Nat):=by rw[←HFI.out];unfold placeV;rw[if_pos hn]
           obtain⟨cv,ov,rowv,hixv, -,hrrv,hwv⟩:=SlF.rowAt (P:=Tryz.prog) HUX.out (plainF_firm _) Tryz.underlying63 size_value (i:=fldAt (typAt b.types m.pat.type).fields m.field) hJ
           have ev:rowv=valC x.vals[fldAt (typAt b.types m.pat.type).fields m.field]:=hrrv
           have hfv:fldV b.types x m.field=x.vals[fldAt (typAt b.types m.pat.type).fields m.field]:=by unfold fldV;rw[←hty];simp[List.getD,List.getElem?_eq_getElem hJ]
           rw[←hfv]at ev
           subst ev
           have HVC:Hid (∀ wx,Below w0.heap.size w0 wx→wx.cell? ⟨cv,ov+1,none⟩=some (.int .i64 (fldV b.types x m.field).int)):=fun wx hb=>(hwv wx hb).1 1 _ rfl
           have HV:=Lib.hid hV0
           have hJb:fldAt (typAt b.types m.pat.type).fields m.field≤1000000:=by have:=typ_few (evGood_of HEX.out).ty;rw[←hty]at this;omega
           generalize (fldV b.types x m.field).int=fx at HVC HV
           generalize fldAt (typAt b.types m.pat.type).fields m.field=J at *
           clear HM1 HM2 HTV hty hV0 he hn hJ hwv hrrv hfv
           go_wp2_with (with_reducible (first|refine wq M ?_|refine wC (HVC.out _ M.new) ?_))
           go_roundg (v.n4 - (j+1))
           case measure=>omega
           case rel=>exact⟨j+1,by omega,by rw[HV.out]<;>exact congrArg _ (wrap_w _).symm,by go_num,M.drop⟩
      ·have hje:all.take j=all:=List.take_of_length_le (by have:=N4.out;omega)
       have hmn:(all.take j).foldl (manyS b.types R tuple m) 0=manyN b.types R tuple all m:=by rw[hje];rfl
       rw[hmn]
       clear hje hmn HMN
       obtain⟨u,hu⟩: ∃ u,decide (manyN b.types R tuple all m<m.count)=u:=⟨_,rfl⟩
       generalize manyN b.types R tuple all m=q at hu HBS2 HB2
       cases u with
       |true=>
        have HV:=Lib.hid (HBS2.out (by simpa using hu))
        clear HBS2 HB2
        go_wp2_with (with_reducible refine wq M ?_)
        go_ret
        rw[HV.out]
        exact⟨rfl,M.new⟩
       |false=>
        have HV:=Lib.hid (HB2.out (by simpa using hu))
        clear HBS2 HB2
        go_wp2_with (with_reducible refine wq M ?_)
        go_roundg (m3 - (i+1))
        case measure=>omega
        case rel=>exact⟨i+1,by omega,by go_num,M.drop,HV⟩
    ·have hje:i=R.manies.length:=by have:=N3.out;omega
     have HV:=Lib.hid (HBE.out (hje▸HB.out))
     clear HB
     go_wp2_with (with_reducible (first|refine wq M ?_|(refine wS M ?_;clear M;intro w M)|(refine wV M ?_;clear M;intro z w M)|(refine wR M ?_;clear M;intro q w M)))
     go_ret
     rw[HV.out]
     exact⟨rfl,M.new⟩
end
end Go.Proofs.YtfahleafppfkaaaGreatDoor
