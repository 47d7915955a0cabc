/- A part, a datagram as an argument. -/
import Derived.Test.YtkblkdojmfgneaaLawKit
namespace Go.Proofs.Ytkblkdojmfgneaa
open Go.ChangeShapes Go.WideShapes Go.ChangeAt Go.RowKit

section
variable {P : Program} {w : World} {H : Type} {enc : TypeId × Value → H} {base : Nat} {spare : Nat → Bool} {held : Bool}
theorem trod_struct6 {t : TypeId} {f0 f1 f2 f3 f4 f5 : Field} {fuel : Nat} {cs : List Value} {x : DataW H × List MemPlace} (ht : P.underlying t = some (.struct #[f0, f1, f2, f3, f4, f5])) (h : DataW.trod enc P w base spare held fuel t cs = some x) :
    ∃ y0 y1 y2 y3 y4 y5 n, x = (.agg [y0.1, y1.1, y2.1, y3.1, y4.1, y5.1], y0.2 ++ (y1.2 ++ (y2.2 ++ (y3.2 ++ (y4.2 ++ y5.2))))) ∧ cs.length = P.cellsOf t ∧ DataW.trod enc P w base spare held n f0.type ((cs.drop f0.offset).take (P.cellsOf f0.type)) = some y0 ∧
      DataW.trod enc P w base spare held n f1.type ((cs.drop f1.offset).take (P.cellsOf f1.type)) = some y1 ∧ DataW.trod enc P w base spare held n f2.type ((cs.drop f2.offset).take (P.cellsOf f2.type)) = some y2 ∧
      DataW.trod enc P w base spare held n f3.type ((cs.drop f3.offset).take (P.cellsOf f3.type)) = some y3 ∧ DataW.trod enc P w base spare held n f4.type ((cs.drop f4.offset).take (P.cellsOf f4.type)) = some y4 ∧
      DataW.trod enc P w base spare held n f5.type ((cs.drop f5.offset).take (P.cellsOf f5.type)) = some y5 := by
  obtain ⟨xs, n, _, rfl, hl, hlen, hf⟩ := DataW.trod_struct ht h
  match xs, hlen with
  | [y0, y1, y2, y3, y4, y5], _ => exact ⟨y0, y1, y2, y3, y4, y5, n, by simp, hl, by simpa using hf 0 f0 rfl, by simpa using hf 1 f1 rfl, by simpa using hf 2 f2 rfl, by simpa using hf 3 f3 rfl, by simpa using hf 4 f4 rfl, by simpa using hf 5 f5 rfl⟩
theorem trod_struct3' {t : TypeId} {f0 f1 f2 : Field} {fuel : Nat} {cs : List Value} {x : DataW H × List MemPlace} (ht : P.underlying t = some (.struct #[f0, f1, f2])) (h : DataW.trod enc P w base spare held fuel t cs = some x) :
    ∃ y0 y1 y2 n, x = (.agg [y0.1, y1.1, y2.1], y0.2 ++ (y1.2 ++ y2.2)) ∧ cs.length = P.cellsOf t ∧ DataW.trod enc P w base spare held n f0.type ((cs.drop f0.offset).take (P.cellsOf f0.type)) = some y0 ∧
      DataW.trod enc P w base spare held n f1.type ((cs.drop f1.offset).take (P.cellsOf f1.type)) = some y1 ∧ DataW.trod enc P w base spare held n f2.type ((cs.drop f2.offset).take (P.cellsOf f2.type)) = some y2 := by
  obtain ⟨xs, n, _, rfl, hl, hlen, hf⟩ := DataW.trod_struct ht h
  match xs, hlen with
  | [y0, y1, y2], _ => exact ⟨y0, y1, y2, n, by simp, hl, by simpa using hf 0 f0 rfl, by simpa using hf 1 f1 rfl, by simpa using hf 2 f2 rfl⟩
end
section
variable {H : Type} {enc : TypeId × Value → H}
set_option maxRecDepth 20000 in
theorem open_gram {w : World} {cs : Array Value} {d : DataW H} {ps : List MemPlace} (h : DataW.Trod enc Try.prog w 0 (fun _ => true) true 81 (.agg cs) d ps) (hc : cs.size = Try.prog.cellsOf 81) :
    ∃ (a b : Nat) (s : ByteArray), cs = #[.int .u64 a, .int .u64 b, .string s] ∧ a ≤ 18446744073709551615 ∧ b ≤ 18446744073709551615 := by
  obtain ⟨fuel, hf⟩ := h
  rw [show Try.prog.cellsOf 81 = 3 by kernel_rfl] at hc
  obtain ⟨y0, y1, y2, n, _, _, e0, e1, e2⟩ := trod_struct3' Try.underlying81 hf
  match cs, hc with
  | ⟨[c0, c1, c2]⟩, _ =>
      have ci : Try.prog.cellsOf 48 = 1 := by kernel_rfl
      have cu : Try.prog.cellsOf 22 = 1 := by kernel_rfl
      have c9 : Try.prog.cellsOf 9 = 1 := by kernel_rfl
      simp only [Value.cells, ci, cu, c9, List.drop_zero, List.drop_succ_cons, List.take_succ_cons, List.take_zero] at e0 e1 e2
      obtain ⟨n0, f0, _, w0⟩ := DataW.trod_int Try.underlying48 e0
      obtain ⟨n1, f1, _, w1⟩ := DataW.trod_int Try.underlying22 e1
      obtain ⟨s, f2, _, _⟩ := DataW.trod_string Try.underlying9 e2
      simp only [List.cons.injEq, and_true] at f0 f1 f2
      subst f0 f1 f2
      simp only [Lit.wf, Bool.and_eq_true, decide_eq_true_eq] at w0 w1
      have g0 : 0 ≤ n0 ∧ n0 ≤ 18446744073709551615 := w0
      have g1 : 0 ≤ n1 ∧ n1 ≤ 18446744073709551615 := w1
      refine ⟨n0.toNat, n1.toNat, s, ?_, by omega, by omega⟩
      rw [Int.toNat_of_nonneg g0.1, Int.toNat_of_nonneg g1.1]
set_option maxRecDepth 20000 in
theorem open_part {w : World} {cs : Array Value} {d : DataW H} {ps : List MemPlace} (h : DataW.Trod enc Try.prog w 0 (fun _ => true) true 70 (.agg cs) d ps) (hc : cs.size = Try.prog.cellsOf 70) :
    ∃ (st rp nb : Nat) (ix : Int) (la : Bool) (s : ByteArray), cs = #[.int .u16 st, .int .u16 rp, .int .u64 nb, .int .i64 ix, .bool la, .string s] ∧ st ≤ 65535 ∧ rp ≤ 65535 ∧ nb ≤ 18446744073709551615 ∧ -9223372036854775808 ≤ ix ∧ ix ≤ 9223372036854775807 := by
  obtain ⟨fuel, hf⟩ := h
  rw [show Try.prog.cellsOf 70 = 6 by kernel_rfl] at hc
  obtain ⟨y0, y1, y2, y3, y4, y5, n, _, _, e0, e1, e2, e3, e4, e5⟩ := trod_struct6 Try.underlying70 hf
  match cs, hc with
  | ⟨[c0, c1, c2, c3, c4, c5]⟩, _ =>
      have ci : Try.prog.cellsOf 49 = 1 := by kernel_rfl
      have cu : Try.prog.cellsOf 22 = 1 := by kernel_rfl
      have c3' : Try.prog.cellsOf 3 = 1 := by kernel_rfl
      have c4' : Try.prog.cellsOf 4 = 1 := by kernel_rfl
      have c9 : Try.prog.cellsOf 9 = 1 := by kernel_rfl
      simp only [Value.cells, ci, cu, c3', c4', c9, List.drop_zero, List.drop_succ_cons, List.take_succ_cons, List.take_zero] at e0 e1 e2 e3 e4 e5
      obtain ⟨n0, f0, _, w0⟩ := DataW.trod_int Try.underlying49 e0
      obtain ⟨n1, f1, _, w1⟩ := DataW.trod_int Try.underlying49 e1
      obtain ⟨n2, f2, _, w2⟩ := DataW.trod_int Try.underlying22 e2
      obtain ⟨n3, f3, _, w3⟩ := DataW.trod_int Try.underlying3 e3
      obtain ⟨b4, f4, _⟩ := DataW.trod_bool Try.underlying4 e4
      obtain ⟨s, f5, _, _⟩ := DataW.trod_string Try.underlying9 e5
      simp only [List.cons.injEq, and_true] at f0 f1 f2 f3 f4 f5
      subst f0 f1 f2 f3 f4 f5
      simp only [Lit.wf, Bool.and_eq_true, decide_eq_true_eq] at w0 w1 w2 w3
      have g0 : 0 ≤ n0 ∧ n0 ≤ 65535 := w0
      have g1 : 0 ≤ n1 ∧ n1 ≤ 65535 := w1
      have g2 : 0 ≤ n2 ∧ n2 ≤ 18446744073709551615 := w2
      have g3 : -9223372036854775808 ≤ n3 ∧ n3 ≤ 9223372036854775807 := w3
      refine ⟨n0.toNat, n1.toNat, n2.toNat, n3, b4, s, ?_, by omega, by omega, by omega, g3.1, g3.2⟩
      rw [Int.toNat_of_nonneg g0.1, Int.toNat_of_nonneg g1.1, Int.toNat_of_nonneg g2.1]
end
end Go.Proofs.Ytkblkdojmfgneaa
