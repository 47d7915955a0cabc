/- For every input: 'HmacChains' of package vagabondlaw04 is true, and it neither panics nor changes an argument. Conditions: none. -/
import Derived.Test.YtgceepjfnncilaaHLawsW
namespace Go.Proofs.Ytgceepjfnncilaa
open Go.ChangeShapes Go.WideShapes Go.ChangeAt Go.RowKit
open Go.ChangeMaps (open_string)
set_option maxRecDepth 100000 in
theorem hmacChains_lifted (os : Os) (started : os.Started) (H : Type) (enc : TypeId × Value → H) :
    ReturnsInHanded {} Try.checked os 10 .any (Rows.hmacChainsSpec.pre6 enc Try.prog Try.f10 [] false) (Rows.hmacChainsSpec.post enc Try.prog Try.f10 false true false false) := by
  refine law_lift 10 Try.f10 Rows.hmacChainsSpec [9, 9, 5] os started H enc Try.func10 rfl rfl Try.underlying4 (by kernel_rfl) rfl
    (ChangeSpec.witness6 (enc := enc) (C := Try.checked) false ⟨#[], #[.string ⟨#[]⟩, .string ⟨#[]⟩, .int .u8 0], []⟩ 8 (by kernel_rfl) (by kernel_rfl) (by kernel_rfl) (by kernel_rfl))
    (fun ds hds => by match ds, hds with | [d0, d1, d2], _ => exact ⟨rfl, rfl, rfl⟩)
    (fun t ht => by
      simp only [List.mem_cons, List.mem_nil_iff, or_false] at ht
      rcases ht with rfl | rfl | rfl <;> exact ⟨by kernel_rfl, of_decide_eq_true (by kernel_rfl)⟩) ?_
  intro W base args ds p hval hA hlt hsz
  obtain ⟨v0, vs0, d0, ds0, p0, q0, e0, rfl, rfl, h0, r0⟩ := trodAll_cons hA
  obtain ⟨v1, vs1, d1, ds1, p1, q1, e1, rfl, rfl, h1, r1⟩ := trodAll_cons r0
  obtain ⟨v2, vs2, d2, ds2, p2, q2, e2, rfl, rfl, h2, r2⟩ := trodAll_cons r1
  obtain ⟨rfl, rfl, rfl⟩ := trodAll_nil r2
  subst e2
  subst e1
  obtain rfl : args = #[v0, v1, v2] := Array.ext' e0
  have hszj : ∀ (j : Nat) (t : TypeId) (d : DataW H), [9, 9, 5][j]? = some t → [d0, d1, d2][j]? = some d → (d.weights Try.prog t).all (· ≤ reachBytes) = true := fun j t d ht hd => by
    rw [List.all_eq_true] at hsz ⊢
    exact fun y hy => hsz y (DataW.weights_mem_each ht hd y hy)
  obtain ⟨s, rfl, rfl, rfl, _⟩ := open_string Try.underlying9 (hval 0 9 v0 rfl rfl) h0
  obtain ⟨t, rfl, rfl, rfl, _⟩ := open_string Try.underlying9 (hval 1 9 v1 rfl rfl) h1
  obtain ⟨z2, rfl, rfl, rfl, w2⟩ := open_int Try.underlying5 (hval 2 5 v2 rfl rfl) h2
  simp only [Lit.wf, Bool.and_eq_true, decide_eq_true_eq] at w2
  have g2 : 0 ≤ z2 ∧ z2 ≤ 255 := w2
  obtain ⟨n, rfl⟩ : ∃ n : Nat, z2 = n := ⟨z2.toNat, by omega⟩
  by_cases hl : (200 : Int) < max (s.size : Int) t.size
  · exact hchain_long s t n W hl
  · exact hchain_walk s t n W hl (by omega) (by omega) (by omega)
theorem hmacChains_holds : Rows.HmacChainsSaid :=
  OpenClaim.holds_of_wide 10 Try.f10 rfl rfl rfl rfl rfl rfl rfl ⟨rfl, rfl, rfl, rfl, rfl⟩ rfl rfl rfl rfl rfl (by kernel_rfl) Try.func10 (by kernel_rfl)
    (of_decide_eq_true (by kernel_rfl)) (by unfold Func.isWrapper; first | (rw [if_pos (by decide +kernel)]; kernel_rfl) | (rw [if_neg (by decide +kernel)]; exact ⟨rfl, rfl⟩))
    (fun os started H enc _ => hmacChains_lifted os started H enc)
#print axioms hmacChains_holds
end Go.Proofs.Ytgceepjfnncilaa
