/- A look, opened. -/
import Derived.Test.YtgdmeaoghhkknaaLawKit
namespace Go.Proofs.Ytgdmeaoghhkknaa
open Go.ChangeShapes Go.WideShapes Go.ChangeAt Go.RowKit
section
variable {H : Type} {enc : TypeId × Value → H}
theorem trod_look {P : Program} {w : World} {base : Nat} {spare : Nat → Bool} {held : Bool} {t : TypeId} {f0 f1 f2 : Field} {fuel : Nat} {cs : List Value} {x : DataW H × List MemPlace} (ht : P.underlying t = some (.struct #[f0, f1, f2])) (h : DataW.trod enc P w base spare held fuel t cs = some x) :
    ∃ y0 y1 y2 n, cs.length = P.cellsOf t ∧ DataW.trod enc P w base spare held n f0.type ((cs.drop f0.offset).take (P.cellsOf f0.type)) = some y0 ∧
      DataW.trod enc P w base spare held n f1.type ((cs.drop f1.offset).take (P.cellsOf f1.type)) = some y1 ∧ DataW.trod enc P w base spare held n f2.type ((cs.drop f2.offset).take (P.cellsOf f2.type)) = some y2 := by
  obtain ⟨xs, n, _, rfl, hl, hlen, hf⟩ := DataW.trod_struct ht h
  match xs, hlen with
  | [y0, y1, y2], _ => exact ⟨y0, y1, y2, n, hl, by simpa using hf 0 f0 rfl, by simpa using hf 1 f1 rfl, by simpa using hf 2 f2 rfl⟩
set_option maxRecDepth 20000 in
theorem open_look {w : World} {cs : Array Value} {d : DataW H} {ps : List MemPlace} (h : DataW.Trod enc Try.prog w 0 (fun _ => true) true 51 (.agg cs) d ps) (hc : cs.size = Try.prog.cellsOf 51) :
    ∃ (a b : Nat) (s : ByteArray), cs = #[.int .u8 a, .int .u8 b, .string s] ∧ a ≤ 255 ∧ b ≤ 255 := by
  obtain ⟨fuel, hf⟩ := h
  rw [show Try.prog.cellsOf 51 = 3 by kernel_rfl] at hc
  obtain ⟨y0, y1, y2, n, _, e0, e1, e2⟩ := trod_look Try.underlying51 hf
  match cs, hc with
  | ⟨[c0, c1, c2]⟩, _ =>
      have c5 : Try.prog.cellsOf 5 = 1 := by kernel_rfl
      have c9 : Try.prog.cellsOf 9 = 1 := by kernel_rfl
      simp only [Value.cells, c5, c9, List.drop_zero, List.drop_succ_cons, List.take_succ_cons, List.take_zero] at e0 e1 e2
      obtain ⟨n0, f0, _, w0⟩ := DataW.trod_int Try.underlying5 e0
      obtain ⟨n1, f1, _, w1⟩ := DataW.trod_int Try.underlying5 e1
      obtain ⟨s, f4, _, _⟩ := DataW.trod_string Try.underlying9 e2
      simp only [List.cons.injEq, and_true] at f0 f1 f4
      subst f0 f1 f4
      simp only [Lit.wf, Bool.and_eq_true, decide_eq_true_eq] at w0 w1
      have g0 : 0 ≤ n0 ∧ n0 ≤ 255 := w0
      have g1 : 0 ≤ n1 ∧ n1 ≤ 255 := w1
      refine ⟨n0.toNat, n1.toNat, s, ?_, by omega, by omega⟩
      rw [Int.toNat_of_nonneg g0.1, Int.toNat_of_nonneg g1.1]
end
end Go.Proofs.Ytgdmeaoghhkknaa
