/- For every input: 'ScreenTexts' of package vagabondlaw11 is true, and it neither panics nor changes an argument. Conditions: none. -/
import Derived.Test.YtgdmeaoghhkknaaTxtsW
import Derived.Test.YtgdmeaoghhkknaaLawKit
namespace Go.Proofs.Ytgdmeaoghhkknaa
open Go.ChangeShapes Go.WideShapes Go.ChangeAt Go.RowKit
open Go.ChangeMaps (open_string)
set_option maxRecDepth 100000 in
theorem screenTexts_lifted (os : Os) (started : os.Started) (H : Type) (enc : TypeId × Value → H) :
    ReturnsInHanded {} Try.checked os 7 .any (Rows.screenTextsSpec.pre6 enc Try.prog Try.f7 [] false) (Rows.screenTextsSpec.post enc Try.prog Try.f7 false true false false) := by
  refine law_lift 7 Try.f7 Rows.screenTextsSpec [3, 3, 9, 9] os started H enc Try.func7 rfl rfl Try.underlying4 (by kernel_rfl) rfl
    (ChangeSpec.witness6 (enc := enc) (C := Try.checked) false ⟨#[], #[.int .i64 0, .int .i64 0, .string ⟨#[]⟩, .string ⟨#[]⟩], []⟩ 8 (by kernel_rfl) (by kernel_rfl) (by kernel_rfl) (by kernel_rfl))
    (fun ds hds => by match ds, hds with | [d0, d1, d2, d3], _ => exact ⟨rfl, rfl, rfl⟩)
    (fun t ht => by
      simp only [List.mem_cons, List.mem_nil_iff, or_false] at ht
      rcases ht with rfl | rfl | rfl | rfl <;> exact ⟨by kernel_rfl, of_decide_eq_true (by kernel_rfl)⟩) ?_
  intro W base args ds p hval hA hlt hsz
  obtain ⟨v0, vs0, d0, ds0, p0, q0, e0, rfl, rfl, h0, r0⟩ := trodAll_cons hA
  obtain ⟨v1, vs1, d1, ds1, p1, q1, e1, rfl, rfl, h1, r1⟩ := trodAll_cons r0
  obtain ⟨v2, vs2, d2, ds2, p2, q2, e2, rfl, rfl, h2, r2⟩ := trodAll_cons r1
  obtain ⟨v3, vs3, d3, ds3, p3, q3, e3, rfl, rfl, h3, r3⟩ := trodAll_cons r2
  obtain ⟨rfl, rfl, rfl⟩ := trodAll_nil r3
  subst e3
  subst e2
  subst e1
  obtain rfl : args = #[v0, v1, v2, v3] := Array.ext' e0
  have hszj : ∀ (j : Nat) (t : TypeId) (d : DataW H), [3, 3, 9, 9][j]? = some t → [d0, d1, d2, d3][j]? = some d → (d.weights Try.prog t).all (· ≤ reachBytes) = true := fun j t d ht hd => by
    rw [List.all_eq_true] at hsz ⊢
    exact fun y hy => hsz y (DataW.weights_mem_each ht hd y hy)
  obtain ⟨z0, rfl, rfl, rfl, _⟩ := open_int Try.underlying3 (hval 0 3 v0 rfl rfl) h0
  obtain ⟨z1, rfl, rfl, rfl, _⟩ := open_int Try.underlying3 (hval 1 3 v1 rfl rfl) h1
  obtain ⟨o, rfl, rfl, rfl, _⟩ := open_string Try.underlying9 (hval 2 9 v2 rfl rfl) h2
  obtain ⟨t, rfl, rfl, rfl, _⟩ := open_string Try.underlying9 (hval 3 9 v3 rfl rfl) h3
  by_cases hl : 2000 < o.size ∨ 2000 < t.size
  · exact texts_long z0 z1 o t W hl
  have hB := both_any t (by omega)
  by_cases hc : z0 < 1 ∨ 80 < z0 ∨ z1 < 1 ∨ 24 < z1
  · exact texts_bad z0 z1 o t W (by omega) (by omega) hB hc
  · obtain ⟨cw, rfl⟩ : ∃ n : Nat, z0 = n := ⟨z0.toNat, by omega⟩
    obtain ⟨ch, rfl⟩ : ∃ n : Nat, z1 = n := ⟨z1.toNat, by omega⟩
    exact texts_walk cw ch o t W (by omega) (by omega) hB (by omega) (by omega) (by omega) (by omega)
theorem screenTexts_holds : Rows.ScreenTextsSaid :=
  OpenClaim.holds_of_wide 7 Try.f7 rfl rfl rfl rfl rfl rfl rfl ⟨rfl, rfl, rfl, rfl, rfl⟩ rfl rfl rfl rfl rfl (by kernel_rfl) Try.func7 (by kernel_rfl)
    (of_decide_eq_true (by kernel_rfl)) (by unfold Func.isWrapper; first | (rw [if_pos (by decide +kernel)]; kernel_rfl) | (rw [if_neg (by decide +kernel)]; exact ⟨rfl, rfl⟩))
    (fun os started H enc _ => screenTexts_lifted os started H enc)
#print axioms screenTexts_holds
end Go.Proofs.Ytgdmeaoghhkknaa
