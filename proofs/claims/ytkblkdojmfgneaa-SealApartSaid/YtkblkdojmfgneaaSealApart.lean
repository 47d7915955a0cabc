/- For every input: 'SealApart' of package vagabondlaw07 is true, and it neither panics nor changes an argument. Conditions: none. -/
import Derived.Test.YtkblkdojmfgneaaSApW
namespace Go.Proofs.Ytkblkdojmfgneaa
open Go.ChangeShapes Go.WideShapes Go.ChangeAt Go.RowKit
open Go.ChangeMaps (open_string)
set_option maxRecDepth 100000 in
theorem sealApart_lifted (os : Os) (started : os.Started) (H : Type) (enc : TypeId × Value → H) :
    ReturnsInHanded {} Try.checked os 7 .any (Rows.sealApartSpec.pre6 enc Try.prog Try.f7 [] false) (Rows.sealApartSpec.post enc Try.prog Try.f7 false true false false) := by
  refine law_lift 7 Try.f7 Rows.sealApartSpec [9, 48, 48, 22, 22, 9, 49, 5] os started H enc Try.func7 rfl rfl Try.underlying4 (by kernel_rfl) rfl
    (ChangeSpec.witness6 (enc := enc) (C := Try.checked) false ⟨#[], #[.string ⟨#[]⟩, .int .u64 0, .int .u64 0, .int .u64 0, .int .u64 0, .string ⟨#[]⟩, .int .u16 0, .int .u8 0], []⟩ 8 (by kernel_rfl) (by kernel_rfl) (by kernel_rfl) (by kernel_rfl))
    (fun ds hds => by match ds, hds with | [d0, d1, d2, d3, d4, d5, d6, d7], _ => exact ⟨rfl, rfl, rfl⟩)
    (fun t ht => by
      simp only [List.mem_cons, List.mem_nil_iff, or_false] at ht
      rcases ht with rfl | rfl | rfl | rfl | rfl | rfl | rfl | rfl <;> exact ⟨by kernel_rfl, of_decide_eq_true (by kernel_rfl)⟩) ?_
  intro W base args ds p hval hA hlt hsz
  obtain ⟨v0, vs0, d0, ds0, p0, q0, e0, rfl, rfl, h0, r0⟩ := trodAll_cons hA
  obtain ⟨v1, vs1, d1, ds1, p1, q1, e1, rfl, rfl, h1, r1⟩ := trodAll_cons r0
  obtain ⟨v2, vs2, d2, ds2, p2, q2, e2, rfl, rfl, h2, r2⟩ := trodAll_cons r1
  obtain ⟨v3, vs3, d3, ds3, p3, q3, e3, rfl, rfl, h3, r3⟩ := trodAll_cons r2
  obtain ⟨v4, vs4, d4, ds4, p4, q4, e4, rfl, rfl, h4, r4⟩ := trodAll_cons r3
  obtain ⟨v5, vs5, d5, ds5, p5, q5, e5, rfl, rfl, h5, r5⟩ := trodAll_cons r4
  obtain ⟨v6, vs6, d6, ds6, p6, q6, e6, rfl, rfl, h6, r6⟩ := trodAll_cons r5
  obtain ⟨v7, vs7, d7, ds7, p7, q7, e7, rfl, rfl, h7, r7⟩ := trodAll_cons r6
  obtain ⟨rfl, rfl, rfl⟩ := trodAll_nil r7
  subst e7
  subst e6
  subst e5
  subst e4
  subst e3
  subst e2
  subst e1
  obtain rfl : args = #[v0, v1, v2, v3, v4, v5, v6, v7] := Array.ext' e0
  have hszj : ∀ (j : Nat) (t : TypeId) (d : DataW H), [9, 48, 48, 22, 22, 9, 49, 5][j]? = some t → [d0, d1, d2, d3, d4, d5, d6, d7][j]? = some d → (d.weights Try.prog t).all (· ≤ reachBytes) = true := fun j t d ht hd => by
    rw [List.all_eq_true] at hsz ⊢
    exact fun y hy => hsz y (DataW.weights_mem_each ht hd y hy)
  obtain ⟨s0, rfl, rfl, rfl, _⟩ := open_string Try.underlying9 (hval 0 9 v0 rfl rfl) h0
  obtain ⟨z1, rfl, rfl, rfl, w1⟩ := open_int Try.underlying48 (hval 1 48 v1 rfl rfl) h1
  simp only [Lit.wf, Bool.and_eq_true, decide_eq_true_eq] at w1
  have g1 : 0 ≤ z1 ∧ z1 ≤ 18446744073709551615 := w1
  obtain ⟨n1, rfl⟩ : ∃ n : Nat, z1 = n := ⟨z1.toNat, by omega⟩
  obtain ⟨z2, rfl, rfl, rfl, w2⟩ := open_int Try.underlying48 (hval 2 48 v2 rfl rfl) h2
  simp only [Lit.wf, Bool.and_eq_true, decide_eq_true_eq] at w2
  have g2 : 0 ≤ z2 ∧ z2 ≤ 18446744073709551615 := w2
  obtain ⟨n2, rfl⟩ : ∃ n : Nat, z2 = n := ⟨z2.toNat, by omega⟩
  obtain ⟨z3, rfl, rfl, rfl, w3⟩ := open_int Try.underlying22 (hval 3 22 v3 rfl rfl) h3
  simp only [Lit.wf, Bool.and_eq_true, decide_eq_true_eq] at w3
  have g3 : 0 ≤ z3 ∧ z3 ≤ 18446744073709551615 := w3
  obtain ⟨n3, rfl⟩ : ∃ n : Nat, z3 = n := ⟨z3.toNat, by omega⟩
  obtain ⟨z4, rfl, rfl, rfl, w4⟩ := open_int Try.underlying22 (hval 4 22 v4 rfl rfl) h4
  simp only [Lit.wf, Bool.and_eq_true, decide_eq_true_eq] at w4
  have g4 : 0 ≤ z4 ∧ z4 ≤ 18446744073709551615 := w4
  obtain ⟨n4, rfl⟩ : ∃ n : Nat, z4 = n := ⟨z4.toNat, by omega⟩
  obtain ⟨s5, rfl, rfl, rfl, _⟩ := open_string Try.underlying9 (hval 5 9 v5 rfl rfl) h5
  obtain ⟨z6, rfl, rfl, rfl, w6⟩ := open_int Try.underlying49 (hval 6 49 v6 rfl rfl) h6
  simp only [Lit.wf, Bool.and_eq_true, decide_eq_true_eq] at w6
  have g6 : 0 ≤ z6 ∧ z6 ≤ 65535 := w6
  obtain ⟨n6, rfl⟩ : ∃ n : Nat, z6 = n := ⟨z6.toNat, by omega⟩
  obtain ⟨z7, rfl, rfl, rfl, w7⟩ := open_int Try.underlying5 (hval 7 5 v7 rfl rfl) h7
  simp only [Lit.wf, Bool.and_eq_true, decide_eq_true_eq] at w7
  have g7 : 0 ≤ z7 ∧ z7 ≤ 255 := w7
  obtain ⟨n7, rfl⟩ : ∃ n : Nat, z7 = n := ⟨z7.toNat, by omega⟩
  by_cases hl : (s0.size : Int) < 1 ∨ (64 : Int) < (s0.size : Int) ∨ (100 : Int) < (s5.size : Int)
  · exact apart_early s0 s5 n1 n2 n3 n4 n6 n7 hl W
  · have k1 : ¬ (s0.size : Int) < 1 := fun h => hl (.inl h)
    have k2 : ¬ (64 : Int) < (s0.size : Int) := fun h => hl (.inr (.inl h))
    have k3 : ¬ (100 : Int) < (s5.size : Int) := fun h => hl (.inr (.inr h))
    exact apart_walk s0 s5 n1 n2 n3 n4 n6 n7 (by omega) (by omega) (by omega) (by omega) (by omega) (by omega) (by omega) (by omega) (by omega) W
theorem sealApart_holds : Rows.SealApartSaid :=
  OpenClaim.holds_of_wide 7 Try.f7 rfl rfl rfl rfl rfl rfl rfl ⟨rfl, rfl, rfl, rfl, rfl⟩ rfl rfl rfl rfl rfl (by kernel_rfl) Try.func7 (by kernel_rfl)
    (of_decide_eq_true (by kernel_rfl)) (by unfold Func.isWrapper; first | (rw [if_pos (by decide +kernel)]; kernel_rfl) | (rw [if_neg (by decide +kernel)]; exact ⟨rfl, rfl⟩))
    (fun os started H enc _ => sealApart_lifted os started H enc)
#print axioms sealApart_holds
end Go.Proofs.Ytkblkdojmfgneaa
