/-
  Lists of strings in memory; the tables of the program's words as such; slices.Index and slices.Contains at strings, walked.
-/
import Derived.Test.YtpnhkkjjdcjmgaaProg
import Derived.Test.YtpnhkkjjdcjmgaaPlain
import Derived.Test.YtpnhkkjjdcjmgaaFoot
import Derived.Lib.Hide
import Derived.Handy
namespace Go.Proofs.Ytpnhkkjjdcjmgaa
open Go.RowKit
set_option linter.unusedVariables false
set_option linter.unusedSimpArgs false
def wordF:(Nat→Prop)→World→List Value→ByteArray→Prop:=plainF fun s=>[.string s]
theorem wordF_firm:Firm wordF:=plainF_firm _
theorem wordF_one{F:Nat→Prop}{w:World}{row:List Value}{s:ByteArray}(h:wordF F w row s):row=[.string s]:=h
theorem size_word:SizeIs Try.prog 9 1:=fun w=>by kernel_rfl
theorem RowAt.one{w:World}{b o:Nat}{x:Value}(h:RowAt w b o 1 [x]):w.cell? ⟨b,o,none⟩=some x:=h.2 0 (by omega)
theorem words_cells{F:Nat→Prop}{w:World}{g n:Nat}{xs:List ByteArray}(hF:F g)(hlt:g<w.heap.size)(hn:xs.length=n)(hm:n≤1000)(h: ∀ i (h:i<xs.length),w.cell? ⟨g,i,none⟩=some (.string xs[i])):SlF F w 1 wordF (some ⟨g,0,none⟩) n n xs:=by
 subst hn
 refine⟨rfl,Nat.le_refl _,by unfold maxLen;omega,by simp,fun i hi=>⟨g,0,[.string xs[i]],rfl,hF,hlt,⟨rfl,fun j hj=>?_⟩,rfl⟩⟩
 obtain rfl:j=0:=by omega
 simpa using h i hi
def keptL:List ByteArray:=[⟨#[97,110,100]⟩,⟨#[97,110,121]⟩,⟨#[101,109,105,116]⟩,⟨#[105,110,116]⟩,⟨#[108,97,115,116]⟩,⟨#[109,97,110,121]⟩,⟨#[110,111,116]⟩,⟨#[111,102]⟩,⟨#[111,114]⟩,⟨#[111,118,101,114]⟩,⟨#[114,117,108,101]⟩,⟨#[116,101,120,116]⟩,⟨#[116,105,109,101]⟩,⟨#[116,121,112,101]⟩,⟨#[119,104,101,110]⟩,⟨#[119,104,101,114,101]⟩,⟨#[119,105,116,104,105,110]⟩]
def relsL:List ByteArray:=[⟨#[]⟩,⟨#[98,101,102,111,114,101]⟩,⟨#[97,102,116,101,114]⟩,⟨#[109,101,101,116,115]⟩,⟨#[109,101,116,98,121]⟩,⟨#[111,118,101,114,108,97,112,115]⟩,⟨#[111,118,101,114,108,97,112,112,101,100]⟩,⟨#[115,116,97,114,116,115]⟩,⟨#[115,116,97,114,116,101,100,98,121]⟩,⟨#[100,117,114,105,110,103]⟩,⟨#[99,111,110,116,97,105,110,115]⟩,⟨#[102,105,110,105,115,104,101,115]⟩,⟨#[102,105,110,105,115,104,101,100,98,121]⟩,⟨#[101,113,117,97,108,115]⟩]
def marksL:List ByteArray:=[⟨#[60,61]⟩,⟨#[62,61]⟩,⟨#[47,61]⟩,⟨#[123]⟩,⟨#[125]⟩,⟨#[91]⟩,⟨#[93]⟩,⟨#[40]⟩,⟨#[41]⟩,⟨#[58]⟩,⟨#[59]⟩,⟨#[44]⟩,⟨#[46]⟩,⟨#[61]⟩,⟨#[60]⟩,⟨#[62]⟩,⟨#[45]⟩]
theorem sameS_comm(a b:ByteArray):sameS a b=sameS b a:=by
 unfold sameS
 rw[Bool.eq_iff_iff]
 simp only[beq_iff_eq]
 exact⟨fun h=>h.symm,fun h=>h.symm⟩
def seekE(xs:List ByteArray)(s:ByteArray)(j:Nat):Int:=if sameS s (xs.getD j ByteArray.empty)=true then(j:Int)+1 else 0
def seekV(xs:List ByteArray)(s:ByteArray):Int:=firstN (seekE xs s) xs.length
theorem word_getD(xs:List ByteArray)(j:Nat)(h:j<xs.length):xs.getD j ByteArray.empty=xs[j]:=by simp[List.getD,List.getElem?_eq_getElem h]
def hasW(xs:List ByteArray)(s:ByteArray):Bool:=decide (1≤seekV xs s)
end Go.Proofs.Ytpnhkkjjdcjmgaa
