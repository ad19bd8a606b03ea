/-
  The types of the arguments of package tape's laws, opened.
-/
import Derived.Test.YtipemoajdphdfaaRows
import Derived.Test.YtipemoajdphdfaaLaw
import Derived.Test.YtipemoajdphdfaaOpen
import Derived.Test.YtipemoajdphdfaaTapL
namespace Go.Proofs.Ytipemoajdphdfaa
open Go.ChangeShapes Go.WideShapes Go.ChangeAt Go.RowKit Go.Joins Go.Deep
set_option linter.unusedVariables false

theorem own_knob : ownKnob Try.prog.godebug = none := by kernel_rfl
theorem laid_out : laidOutB Try.prog = true := by kernel_rfl
theorem opens_byte : Opens Try.prog 5 1 byteF :=
  ⟨by kernel_rfl, by omega, fun w n row y hl h _ _ => by
    match row, hl with
    | [c], _ =>
      obtain ⟨k, e, -, hk⟩ := DataW.trod_int Try.underlying5 h
      have hk' : 0 ≤ k ∧ k ≤ 255 := by simpa [Lit.wf, IntKind.min, IntKind.max, IntKind.bits, IntKind.signed] using hk
      refine ⟨UInt8.ofNat k.toNat, ?_⟩
      show [c] = [byteC _]
      rw [e]
      unfold byteC
      congr 2
      have : k.toNat < 256 := by omega
      simp [UInt8.toNat_ofNat', Nat.mod_eq_of_lt this]
      omega⟩
theorem opens_bytes : Opens Try.prog 28 1 (sliceF 1 1 byteF) := opens_slice Try.underlying28 (by kernel_rfl) (by kernel_rfl) opens_byte
theorem opens_i : Opens Try.prog 3 1 intF := opens_int Try.underlying3 (by kernel_rfl)

/-- A tape in its cells: its bytes and how many of them are synced. -/
structure Tp where
  data : List UInt8
  synced : Int
def tapeF : (Nat → Prop) → World → List Value → Tp → Prop := fun F w row t => ∃ ao n cap, row = [.slice ao n cap, .int .i64 t.synced] ∧ SlF F w 1 byteF ao n cap t.data ∧ n ≤ 140737488351232
theorem list_two {α : Type} {l : List α} (h : l.length = 2) : ∃ a b, l = [a, b] := by
  match l, h with
  | [a, b], _ => exact ⟨a, b, rfl⟩
set_option maxRecDepth 100000 in
theorem opens_tape : Opens Try.prog 30 2 tapeF :=
  ⟨by kernel_rfl, by omega, fun w n row y hl h hlt hB => by
    obtain ⟨xs, k, -, rfl, -, hxl, hf⟩ := DataW.trod_struct Try.underlying30 h
    obtain ⟨c0, c1, rfl⟩ := list_two hl
    · have hx : xs.length = 2 := hxl
      obtain ⟨x0, ao, n, cap, e0, hS, h8⟩ := opens_field Try.underlying30 hf hlt hB 0 _ rfl (by omega) opens_bytes [c0] rfl rfl
      obtain ⟨x1, e1⟩ := opens_field Try.underlying30 hf hlt hB 1 _ rfl (by omega) opens_i [c1] rfl rfl
      have e1' : [c1] = [Value.int .i64 x1] := e1
      simp only [List.cons.injEq, and_true] at e0 e1'
      subst e0 e1'
      exact ⟨⟨x0, x1⟩, ao, n, cap, rfl, hS, by rw [hS.len]; omega⟩⟩
set_option maxRecDepth 100000 in
theorem open_tape {H : Type} {enc : TypeId × Value → H} {W : World} {base : Nat} {v : Value} {d : DataW H} {ps : List MemPlace} (hv : Value.okWide Try.prog W .any base 30 v) (h : DataW.Trod enc Try.prog W 0 (fun _ => true) true 30 v d ps) (hlt : ∀ p ∈ ps, p.block < W.heap.size) (hB : ∀ q ∈ d.weights Try.prog 30, q ≤ reachBytes) :
    ∃ ao n cap s xs, v = .agg #[.slice ao n cap, .int .i64 s] ∧ SlF (under W.heap.size) W 1 byteF ao n cap xs ∧ n ≤ 140737488355328 := by
  obtain ⟨cs, rfl, hsz⟩ := okWide_struct Try.underlying30 hv
  obtain ⟨t, ao, n, cap, e, hS, h8⟩ := open_arg opens_tape (by rw [opens_tape.1] at hsz; simpa [Value.cells] using hsz) h hlt hB
  refine ⟨ao, n, cap, t.synced, t.data, ?_, hS, by omega⟩
  have h1 : cs = cs.toList.toArray := by simp
  have h2 : cs.toList = [.slice ao n cap, .int .i64 t.synced] := by simpa [Value.cells] using e
  rw [h1, h2]
end Go.Proofs.Ytipemoajdphdfaa
