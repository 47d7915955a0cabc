/- For every input: 'WireSealed' of package vagabondlaw09 is true, and it neither panics nor changes an argument. Conditions: none. -/
import Derived.Test.YtkblkdojmfgneaaSldW
import Derived.Test.YtkblkdojmfgneaaWOpen
namespace Go.Proofs.Ytkblkdojmfgneaa
open Go.ChangeShapes Go.WideShapes Go.ChangeAt Go.RowKit
open Go.ChangeMaps (open_string)
set_option maxRecDepth 100000 in
theorem wireSealed_lifted (os : Os) (started : os.Started) (H : Type) (enc : TypeId × Value → H) :
    ReturnsInHanded {} Try.checked os 13 .any (Rows.wireSealedSpec.pre6 enc Try.prog Try.f13 [] false) (Rows.wireSealedSpec.post enc Try.prog Try.f13 false true false false) := by
  refine law_lift 13 Try.f13 Rows.wireSealedSpec [9, 48, 22, 4, 70] os started H enc Try.func13 rfl rfl Try.underlying4 (by kernel_rfl) rfl
    (ChangeSpec.witness6 (enc := enc) (C := Try.checked) false ⟨#[], #[.string ⟨#[]⟩, .int .u64 0, .int .u64 0, .bool false, .agg #[.int .u16 0, .int .u16 0, .int .u64 0, .int .i64 0, .bool false, .string ⟨#[]⟩]], []⟩ 8 (by kernel_rfl) (by kernel_rfl) (by kernel_rfl) (by kernel_rfl))
    (fun ds hds => by match ds, hds with | [d0, d1, d2, d3, d4], _ => exact ⟨rfl, rfl, rfl⟩)
    (fun t ht => by
      simp only [List.mem_cons, List.mem_nil_iff, or_false] at ht
      rcases ht with rfl | rfl | rfl | rfl | rfl <;> exact ⟨by kernel_rfl, of_decide_eq_true (by kernel_rfl)⟩) ?_
  intro W base args ds p hval hA hlt hsz
  obtain ⟨v0, vs0, d0, ds0, p0, q0, e0, rfl, rfl, h0, r0⟩ := trodAll_cons hA
  obtain ⟨v1, vs1, d1, ds1, p1, q1, e1, rfl, rfl, h1, r1⟩ := trodAll_cons r0
  obtain ⟨v2, vs2, d2, ds2, p2, q2, e2, rfl, rfl, h2, r2⟩ := trodAll_cons r1
  obtain ⟨v3, vs3, d3, ds3, p3, q3, e3, rfl, rfl, h3, r3⟩ := trodAll_cons r2
  obtain ⟨v4, vs4, d4, ds4, p4, q4, e4, rfl, rfl, h4, r4⟩ := trodAll_cons r3
  obtain ⟨rfl, rfl, rfl⟩ := trodAll_nil r4
  subst e4
  subst e3
  subst e2
  subst e1
  obtain rfl : args = #[v0, v1, v2, v3, v4] := Array.ext' e0
  have hszj : ∀ (j : Nat) (t : TypeId) (d : DataW H), [9, 48, 22, 4, 70][j]? = some t → [d0, d1, d2, d3, d4][j]? = some d → (d.weights Try.prog t).all (· ≤ reachBytes) = true := fun j t d ht hd => by
    rw [List.all_eq_true] at hsz ⊢
    exact fun y hy => hsz y (DataW.weights_mem_each ht hd y hy)
  obtain ⟨s0, rfl, rfl, rfl, _⟩ := open_string Try.underlying9 (hval 0 9 v0 rfl rfl) h0
  obtain ⟨z1, rfl, rfl, rfl, w1⟩ := open_int Try.underlying48 (hval 1 48 v1 rfl rfl) h1
  simp only [Lit.wf, Bool.and_eq_true, decide_eq_true_eq] at w1
  have k1 : 0 ≤ z1 ∧ z1 ≤ 18446744073709551615 := w1
  obtain ⟨n1, rfl⟩ : ∃ n : Nat, z1 = n := ⟨z1.toNat, by omega⟩
  obtain ⟨z2, rfl, rfl, rfl, w2⟩ := open_int Try.underlying22 (hval 2 22 v2 rfl rfl) h2
  simp only [Lit.wf, Bool.and_eq_true, decide_eq_true_eq] at w2
  have k2 : 0 ≤ z2 ∧ z2 ≤ 18446744073709551615 := w2
  obtain ⟨n2, rfl⟩ : ∃ n : Nat, z2 = n := ⟨z2.toNat, by omega⟩
  obtain ⟨d3, rfl, rfl, rfl⟩ := open_bool Try.underlying4 (hval 3 4 v3 rfl rfl) h3
  obtain ⟨cs, rfl, hcs⟩ := okWide_struct Try.underlying70 (hval 4 70 v4 rfl rfl)
  obtain ⟨st, rp, nb, ix, la, tx, rfl, g1, g2, g3, _, _⟩ := open_part h4 hcs
  by_cases hl : (s0.size : Int) < 1 ∨ (64 : Int) < (s0.size : Int) ∨ (9223372036854775807 : Int) < (n2 : Int) ∨ ¬ chk ix tx = 0
  · exact sealed_early s0 n1 n2 st rp nb d3 ix la tx hl W
  · have q1 : ¬ (s0.size : Int) < 1 := fun h => hl (.inl h)
    have q2 : ¬ (64 : Int) < (s0.size : Int) := fun h => hl (.inr (.inl h))
    have q3 : ¬ (9223372036854775807 : Int) < (n2 : Int) := fun h => hl (.inr (.inr (.inl h)))
    have q4 : chk ix tx = 0 := Classical.byContradiction fun h => hl (.inr (.inr (.inr h)))
    rcases chk_cases ix tx with ⟨_, e⟩ | ⟨_, _, _, e⟩ | ⟨y1, y2, y3, _⟩
    · rw [e] at q4; exact absurd q4 (by decide)
    · rw [e] at q4; exact absurd q4 (by decide)
    · obtain ⟨m, rfl⟩ : ∃ m : Nat, ix = m := ⟨ix.toNat, by omega⟩
      exact sealed_walk s0 n1 n2 st rp nb m d3 la tx (by omega) (by omega) (by omega) (by omega) g1 g2 g3 (by omega) y3 W
theorem wireSealed_holds : Rows.WireSealedSaid :=
  OpenClaim.holds_of_wide 13 Try.f13 rfl rfl rfl rfl rfl rfl rfl ⟨rfl, rfl, rfl, rfl, rfl⟩ rfl rfl rfl rfl rfl (by kernel_rfl) Try.func13 (by kernel_rfl)
    (of_decide_eq_true (by kernel_rfl)) (by unfold Func.isWrapper; first | (rw [if_pos (by decide +kernel)]; kernel_rfl) | (rw [if_neg (by decide +kernel)]; exact ⟨rfl, rfl⟩))
    (fun os started H enc _ => wireSealed_lifted os started H enc)
#print axioms wireSealed_holds
end Go.Proofs.Ytkblkdojmfgneaa
