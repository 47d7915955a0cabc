/- The turns of SenderEnds and SenderPlays, read off the argument. -/
import Derived.Test.YtpnbmfpdoipioaaSenderEndsW
import Derived.Test.YtpnbmfpdoipioaaLawKit
import Derived.Deep.Strs
namespace Go.Proofs.Ytpnbmfpdoipioaa
open Go.ChangeShapes Go.WideShapes Go.ChangeAt Go.RowKit Go.Deep

section
variable {P : Program} {w : World} {H : Type} {enc : TypeId × Value → H} {base : Nat} {spare : Nat → Bool} {held : Bool}
theorem trod_struct6 {t : TypeId} {f0 f1 f2 f3 f4 f5 : Field} {fuel : Nat} {cs : List Value} {x : DataW H × List MemPlace} (ht : P.underlying t = some (.struct #[f0, f1, f2, f3, f4, f5])) (h : DataW.trod enc P w base spare held fuel t cs = some x) :
    ∃ y0 y1 y2 y3 y4 y5 n, x = (.agg [y0.1, y1.1, y2.1, y3.1, y4.1, y5.1], y0.2 ++ (y1.2 ++ (y2.2 ++ (y3.2 ++ (y4.2 ++ y5.2))))) ∧ cs.length = P.cellsOf t ∧ DataW.trod enc P w base spare held n f0.type ((cs.drop f0.offset).take (P.cellsOf f0.type)) = some y0 ∧
      DataW.trod enc P w base spare held n f1.type ((cs.drop f1.offset).take (P.cellsOf f1.type)) = some y1 ∧ DataW.trod enc P w base spare held n f2.type ((cs.drop f2.offset).take (P.cellsOf f2.type)) = some y2 ∧
      DataW.trod enc P w base spare held n f3.type ((cs.drop f3.offset).take (P.cellsOf f3.type)) = some y3 ∧ DataW.trod enc P w base spare held n f4.type ((cs.drop f4.offset).take (P.cellsOf f4.type)) = some y4 ∧
      DataW.trod enc P w base spare held n f5.type ((cs.drop f5.offset).take (P.cellsOf f5.type)) = some y5 := by
  obtain ⟨xs, n, _, rfl, hl, hlen, hf⟩ := DataW.trod_struct ht h
  match xs, hlen with
  | [y0, y1, y2, y3, y4, y5], _ => exact ⟨y0, y1, y2, y3, y4, y5, n, by simp, hl, by simpa using hf 0 f0 rfl, by simpa using hf 1 f1 rfl, by simpa using hf 2 f2 rfl, by simpa using hf 3 f3 rfl, by simpa using hf 4 f4 rfl, by simpa using hf 5 f5 rfl⟩
end

theorem se_cells35 : Try.prog.cellsOf 35 = 6 := by kernel_rfl
theorem se_bytes35 : Try.prog.bytesOf 35 = 56 := by kernel_rfl
theorem se_cells5 : Try.prog.cellsOf 5 = 1 := by kernel_rfl
theorem se_cells9 : Try.prog.cellsOf 9 = 1 := by kernel_rfl
theorem se_cells29 : Try.prog.cellsOf 29 = 1 := by kernel_rfl

set_option maxRecDepth 20000 in
theorem open_sacts {H : Type} {enc : TypeId × Value → H} {w : World} {a0 : Option Addr} {len cap : Nat} {d : DataW H} {ps : List MemPlace}
    (h : DataW.Trod enc Try.prog w 0 (fun _ => true) true 22 (.slice a0 len cap) d ps) (hlt : ∀ x ∈ ps, x.block < w.heap.size) (hw : (d.weights Try.prog 22).all (· ≤ reachBytes) = true) :
    len ≤ 140737488355328 ∧ ∃ b off l, (0 < len → a0 = some ⟨b, off, none⟩) ∧ SActsAt w b off len l := by
  obtain ⟨hb, b, off, h0, hel⟩ := open_elems Try.underlying22 (by rw [se_cells35]; omega) h hlt hw
  rw [se_bytes35] at hb
  simp only [reachBytes] at hb
  have hex : ∀ i, i < len → ∃ x : SAct, w.cell? ⟨b, off + i * 6, none⟩ = some (.int .u8 x.d) ∧ w.cell? ⟨b, off + i * 6 + 1, none⟩ = some (.string x.t) ∧ w.cell? ⟨b, off + i * 6 + 2, none⟩ = some (.int .u64 x.n) ∧ w.cell? ⟨b, off + i * 6 + 3, none⟩ = some (.int .u64 x.la) ∧
      w.cell? ⟨b, off + i * 6 + 4, none⟩ = some (.int .u64 x.wt) ∧ w.cell? ⟨b, off + i * 6 + 5, none⟩ = some (.int .u64 x.bt) ∧ (x.d ≤ 255 ∧ x.n ≤ 18446744073709551615 ∧ x.la ≤ 18446744073709551615 ∧ x.wt ≤ 18446744073709551615 ∧ x.bt ≤ 18446744073709551615) := by
    intro i hi
    obtain ⟨cs, x, n, hcl, hcell, hy, hwt⟩ := hel i hi
    rw [se_cells35] at hcl hcell
    match cs, hcl with
    | [c0, c1, c2, c3, c4, c5], _ =>
      obtain ⟨y0, y1, y2, y3, y4, y5, m, rfl, _, e0, e1, e2, e3, e4, e5⟩ := trod_struct6 Try.underlying35 hy
      simp only [se_cells5, se_cells9, se_cells29, List.drop_zero, List.drop_succ_cons, List.take_succ_cons, List.take_zero] at e0 e1 e2 e3 e4 e5
      obtain ⟨n0, f0, rfl, w0⟩ := DataW.trod_int Try.underlying5 e0
      obtain ⟨s, f1, rfl, _⟩ := DataW.trod_string Try.underlying9 e1
      obtain ⟨n2, f2, rfl, w2⟩ := DataW.trod_int Try.underlying29 e2
      obtain ⟨n3, f3, rfl, w3⟩ := DataW.trod_int Try.underlying29 e3
      obtain ⟨n4, f4, rfl, w4⟩ := DataW.trod_int Try.underlying29 e4
      obtain ⟨n5, f5, rfl, w5⟩ := DataW.trod_int Try.underlying29 e5
      simp only [List.cons.injEq, and_true] at f0 f1 f2 f3 f4 f5
      subst f0 f1 f2 f3 f4 f5
      have g0 : 0 ≤ n0 ∧ n0 ≤ 255 := by simp only [Lit.wf, Bool.and_eq_true, decide_eq_true_eq] at w0; exact ⟨w0.1, w0.2⟩
      have g2 : 0 ≤ n2 ∧ n2 ≤ 18446744073709551615 := by simp only [Lit.wf, Bool.and_eq_true, decide_eq_true_eq] at w2; exact ⟨w2.1, w2.2⟩
      have g3 : 0 ≤ n3 ∧ n3 ≤ 18446744073709551615 := by simp only [Lit.wf, Bool.and_eq_true, decide_eq_true_eq] at w3; exact ⟨w3.1, w3.2⟩
      have g4 : 0 ≤ n4 ∧ n4 ≤ 18446744073709551615 := by simp only [Lit.wf, Bool.and_eq_true, decide_eq_true_eq] at w4; exact ⟨w4.1, w4.2⟩
      have g5 : 0 ≤ n5 ∧ n5 ≤ 18446744073709551615 := by simp only [Lit.wf, Bool.and_eq_true, decide_eq_true_eq] at w5; exact ⟨w5.1, w5.2⟩
      have cst : ∀ (k : IntKind) (z : Int), 0 ≤ z → some (Value.int k z) = some (.int k (z.toNat : Int)) := fun k z hz => by rw [Int.toNat_of_nonneg hz]
      refine ⟨⟨n0.toNat, s, n2.toNat, n3.toNat, n4.toNat, n5.toNat⟩, ?_, ?_, ?_, ?_, ?_, ?_, ?_⟩
      · have := hcell 0 (by omega)
        rw [Nat.add_zero] at this
        exact this.trans (cst _ _ g0.1)
      · exact hcell 1 (by omega)
      · exact (hcell 2 (by omega)).trans (cst _ _ g2.1)
      · exact (hcell 3 (by omega)).trans (cst _ _ g3.1)
      · exact (hcell 4 (by omega)).trans (cst _ _ g4.1)
      · exact (hcell 5 (by omega)).trans (cst _ _ g5.1)
      · refine ⟨?_, ?_, ?_, ?_, ?_⟩
        · show n0.toNat ≤ 255; omega
        · show n2.toNat ≤ _; omega
        · show n3.toNat ≤ _; omega
        · show n4.toNat ≤ _; omega
        · show n5.toNat ≤ _; omega
  obtain ⟨l, hl, hq⟩ := exists_list (fun i (x : SAct) => w.cell? ⟨b, off + i * 6, none⟩ = some (.int .u8 x.d) ∧ w.cell? ⟨b, off + i * 6 + 1, none⟩ = some (.string x.t) ∧ w.cell? ⟨b, off + i * 6 + 2, none⟩ = some (.int .u64 x.n) ∧ w.cell? ⟨b, off + i * 6 + 3, none⟩ = some (.int .u64 x.la) ∧
      w.cell? ⟨b, off + i * 6 + 4, none⟩ = some (.int .u64 x.wt) ∧ w.cell? ⟨b, off + i * 6 + 5, none⟩ = some (.int .u64 x.bt) ∧ (x.d ≤ 255 ∧ x.n ≤ 18446744073709551615 ∧ x.la ≤ 18446744073709551615 ∧ x.wt ≤ 18446744073709551615 ∧ x.bt ≤ 18446744073709551615)) len hex
  exact ⟨by omega, b, off, l, fun h => (h0 h).1, ⟨fun h => (h0 h).2, fun j hj => (hq j hj).1, fun j hj => (hq j hj).2.1, fun j hj => (hq j hj).2.2.1, fun j hj => (hq j hj).2.2.2.1, fun j hj => (hq j hj).2.2.2.2.1, fun j hj => (hq j hj).2.2.2.2.2.1, fun j hj => (hq j hj).2.2.2.2.2.2⟩⟩

end Go.Proofs.Ytpnbmfpdoipioaa
