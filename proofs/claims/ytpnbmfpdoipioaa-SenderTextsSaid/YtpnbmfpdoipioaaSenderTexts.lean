/- For every input: 'SenderTexts' of package vagabondlaw15 is true, and it neither panics nor changes an argument. Conditions: none. -/
import Derived.Test.YtpnbmfpdoipioaaTextsW
import Derived.Test.YtpnbmfpdoipioaaLawKit
namespace Go.Proofs.Ytpnbmfpdoipioaa
open Go.ChangeShapes Go.WideShapes Go.ChangeAt Go.RowKit
open Go.ChangeMaps (open_string)

section
variable {H : Type} {enc : TypeId × Value → H}
theorem trod_struct5 {P : Program} {w : World} {base : Nat} {spare : Nat → Bool} {held : Bool} {t : TypeId} {f0 f1 f2 f3 f4 : Field} {fuel : Nat} {cs : List Value} {x : DataW H × List MemPlace} (ht : P.underlying t = some (.struct #[f0, f1, f2, f3, f4])) (h : DataW.trod enc P w base spare held fuel t cs = some x) :
    ∃ y0 y1 y2 y3 y4 n, cs.length = P.cellsOf t ∧ DataW.trod enc P w base spare held n f0.type ((cs.drop f0.offset).take (P.cellsOf f0.type)) = some y0 ∧
      DataW.trod enc P w base spare held n f1.type ((cs.drop f1.offset).take (P.cellsOf f1.type)) = some y1 ∧ DataW.trod enc P w base spare held n f2.type ((cs.drop f2.offset).take (P.cellsOf f2.type)) = some y2 ∧
      DataW.trod enc P w base spare held n f3.type ((cs.drop f3.offset).take (P.cellsOf f3.type)) = some y3 ∧ DataW.trod enc P w base spare held n f4.type ((cs.drop f4.offset).take (P.cellsOf f4.type)) = some y4 := by
  obtain ⟨xs, n, _, rfl, hl, hlen, hf⟩ := DataW.trod_struct ht h
  match xs, hlen with
  | [y0, y1, y2, y3, y4], _ => exact ⟨y0, y1, y2, y3, y4, n, hl, by simpa using hf 0 f0 rfl, by simpa using hf 1 f1 rfl, by simpa using hf 2 f2 rfl, by simpa using hf 3 f3 rfl, by simpa using hf 4 f4 rfl⟩
set_option maxRecDepth 20000 in
theorem open_instr {w : World} {cs : Array Value} {d : DataW H} {ps : List MemPlace} (h : DataW.Trod enc Try.prog w 0 (fun _ => true) true 38 (.agg cs) d ps) (hc : cs.size = Try.prog.cellsOf 38) :
    ∃ (a b c d : Nat) (s : ByteArray), cs = #[.int .u64 a, .int .u64 b, .int .u64 c, .int .u64 d, .string s] ∧ a ≤ 18446744073709551615 ∧ b ≤ 18446744073709551615 ∧ c ≤ 18446744073709551615 ∧ d ≤ 18446744073709551615 := by
  obtain ⟨fuel, hf⟩ := h
  rw [show Try.prog.cellsOf 38 = 5 by kernel_rfl] at hc
  obtain ⟨y0, y1, y2, y3, y4, n, _, e0, e1, e2, e3, e4⟩ := trod_struct5 Try.underlying38 hf
  match cs, hc with
  | ⟨[c0, c1, c2, c3, c4]⟩, _ =>
      have c29 : Try.prog.cellsOf 29 = 1 := by kernel_rfl
      have c9 : Try.prog.cellsOf 9 = 1 := by kernel_rfl
      simp only [Value.cells, c29, c9, List.drop_zero, List.drop_succ_cons, List.take_succ_cons, List.take_zero] at e0 e1 e2 e3 e4
      obtain ⟨n0, f0, _, w0⟩ := DataW.trod_int Try.underlying29 e0
      obtain ⟨n1, f1, _, w1⟩ := DataW.trod_int Try.underlying29 e1
      obtain ⟨n2, f2, _, w2⟩ := DataW.trod_int Try.underlying29 e2
      obtain ⟨n3, f3, _, w3⟩ := DataW.trod_int Try.underlying29 e3
      obtain ⟨s, f4, _, _⟩ := DataW.trod_string Try.underlying9 e4
      simp only [List.cons.injEq, and_true] at f0 f1 f2 f3 f4
      subst f0 f1 f2 f3 f4
      simp only [Lit.wf, Bool.and_eq_true, decide_eq_true_eq] at w0 w1 w2 w3
      have g0 : 0 ≤ n0 ∧ n0 ≤ 18446744073709551615 := w0
      have g1 : 0 ≤ n1 ∧ n1 ≤ 18446744073709551615 := w1
      have g2 : 0 ≤ n2 ∧ n2 ≤ 18446744073709551615 := w2
      have g3 : 0 ≤ n3 ∧ n3 ≤ 18446744073709551615 := w3
      refine ⟨n0.toNat, n1.toNat, n2.toNat, n3.toNat, s, ?_, by omega, by omega, by omega, by omega⟩
      rw [Int.toNat_of_nonneg g0.1, Int.toNat_of_nonneg g1.1, Int.toNat_of_nonneg g2.1, Int.toNat_of_nonneg g3.1]
end

set_option maxRecDepth 100000 in
theorem senderTexts_lifted (os : Os) (started : os.Started) (H : Type) (enc : TypeId × Value → H) :
    ReturnsInHanded {} Try.checked os 6 .any (Rows.senderTextsSpec.pre6 enc Try.prog Try.f6 [] false) (Rows.senderTextsSpec.post enc Try.prog Try.f6 false true false false) := by
  refine law_lift 6 Try.f6 Rows.senderTextsSpec [38, 9] os started H enc Try.func6 rfl rfl Try.underlying4 (by kernel_rfl) rfl
    (ChangeSpec.witness6 (enc := enc) (C := Try.checked) false ⟨#[], #[.agg #[.int .u64 0, .int .u64 0, .int .u64 0, .int .u64 0, .string ⟨#[]⟩], .string ⟨#[]⟩], []⟩ 8 (by kernel_rfl) (by kernel_rfl) (by kernel_rfl) (by kernel_rfl))
    (fun ds hds => by match ds, hds with | [d0, d1], _ => exact ⟨rfl, rfl, rfl⟩)
    (fun t ht => by
      simp only [List.mem_cons, List.mem_nil_iff, or_false] at ht
      rcases ht with rfl | rfl <;> exact ⟨by kernel_rfl, of_decide_eq_true (by kernel_rfl)⟩) ?_
  intro W base args ds p hval hA hlt hsz
  obtain ⟨v0, vs0, d0, ds0, p0, q0, e0, rfl, rfl, h0, r0⟩ := trodAll_cons hA
  obtain ⟨v1, vs1, d1, ds1, p1, q1, e1, rfl, rfl, h1, r1⟩ := trodAll_cons r0
  obtain ⟨rfl, rfl, rfl⟩ := trodAll_nil r1
  subst e1
  obtain rfl : args = #[v0, v1] := Array.ext' e0
  have hszj : ∀ (j : Nat) (t : TypeId) (d : DataW H), [38, 9][j]? = some t → [d0, d1][j]? = some d → (d.weights Try.prog t).all (· ≤ reachBytes) = true := fun j t d ht hd => by
    rw [List.all_eq_true] at hsz ⊢
    exact fun y hy => hsz y (DataW.weights_mem_each ht hd y hy)
  obtain ⟨cs, rfl, hcs⟩ := okWide_struct Try.underlying38 (hval 0 38 v0 rfl rfl)
  obtain ⟨a, b, c, d, s, rfl, ha, hb, hc, hd⟩ := open_instr h0 hcs
  obtain ⟨t, rfl, rfl, rfl, _⟩ := open_string Try.underlying9 (hval 1 9 v1 rfl rfl) h1
  by_cases hl : 1000 < s.size ∨ 1000 < t.size
  · exact texts_long a b c d s t W hl
  · exact texts_walk a b c d s t W ha hb hc hd (by omega) (by omega)
theorem senderTexts_holds : Rows.SenderTextsSaid :=
  OpenClaim.holds_of_wide 6 Try.f6 rfl rfl rfl rfl rfl rfl rfl ⟨rfl, rfl, rfl, rfl, rfl⟩ rfl rfl rfl rfl rfl (by kernel_rfl) Try.func6 (by kernel_rfl)
    (of_decide_eq_true (by kernel_rfl)) (by unfold Func.isWrapper; first | (rw [if_pos (by decide +kernel)]; kernel_rfl) | (rw [if_neg (by decide +kernel)]; exact ⟨rfl, rfl⟩))
    (fun os started H enc _ => senderTexts_lifted os started H enc)
#print axioms senderTexts_holds
end Go.Proofs.Ytpnbmfpdoipioaa
