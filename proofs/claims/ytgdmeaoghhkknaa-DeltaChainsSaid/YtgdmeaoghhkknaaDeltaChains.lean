/- For every input: 'DeltaChains' of package vagabondlaw12 is true, and it neither panics nor changes an argument. Conditions: none. -/
import Derived.Test.YtgdmeaoghhkknaaDChW
import Derived.Test.YtgdmeaoghhkknaaLawKit
namespace Go.Proofs.Ytgdmeaoghhkknaa
open Go.ChangeShapes Go.WideShapes Go.ChangeAt Go.RowKit
theorem cells9 : Try.prog.cellsOf 9 = 1 := by kernel_rfl
set_option maxRecDepth 100000 in
theorem deltaChains_lifted (os : Os) (started : os.Started) (H : Type) (enc : TypeId × Value → H) :
    ReturnsInHanded {} Try.checked os 9 .any (Rows.deltaChainsSpec.pre6 enc Try.prog Try.f9 [] false) (Rows.deltaChainsSpec.post enc Try.prog Try.f9 false true false false) := by
  refine law_lift 9 Try.f9 Rows.deltaChainsSpec [5, 5, 36, 5] os started H enc Try.func9 rfl rfl Try.underlying4 (by kernel_rfl) rfl
    (ChangeSpec.witness6 (enc := enc) (C := Try.checked) false ⟨#[], #[.int .u8 0, .int .u8 0, .slice none 0 0, .int .u8 0], []⟩ 8 (by kernel_rfl) (by kernel_rfl) (by kernel_rfl) (by kernel_rfl))
    (fun ds hds => by match ds, hds with | [d0, d1, d2, d3], _ => exact ⟨rfl, rfl, rfl⟩)
    (fun t ht => by
      simp only [List.mem_cons, List.mem_nil_iff, or_false] at ht
      rcases ht with rfl | rfl | rfl | rfl <;> exact ⟨by kernel_rfl, of_decide_eq_true (by kernel_rfl)⟩) ?_
  intro W base args ds p hval hA hlt hsz
  obtain ⟨v0, vs0, d0, ds0, p0, q0, e0, rfl, rfl, h0, r0⟩ := trodAll_cons hA
  obtain ⟨v1, vs1, d1, ds1, p1, q1, e1, rfl, rfl, h1, r1⟩ := trodAll_cons r0
  obtain ⟨v2, vs2, d2, ds2, p2, q2, e2, rfl, rfl, h2, r2⟩ := trodAll_cons r1
  obtain ⟨v3, vs3, d3, ds3, p3, q3, e3, rfl, rfl, h3, r3⟩ := trodAll_cons r2
  obtain ⟨rfl, rfl, rfl⟩ := trodAll_nil r3
  subst e3
  subst e2
  subst e1
  obtain rfl : args = #[v0, v1, v2, v3] := Array.ext' e0
  have hszj : ∀ (j : Nat) (t : TypeId) (d : DataW H), [5, 5, 36, 5][j]? = some t → [d0, d1, d2, d3][j]? = some d → (d.weights Try.prog t).all (· ≤ reachBytes) = true := fun j t d ht hd => by
    rw [List.all_eq_true] at hsz ⊢
    exact fun y hy => hsz y (DataW.weights_mem_each ht hd y hy)
  obtain ⟨z0, rfl, rfl, rfl, w0⟩ := open_int Try.underlying5 (hval 0 5 v0 rfl rfl) h0
  obtain ⟨z1, rfl, rfl, rfl, w1⟩ := open_int Try.underlying5 (hval 1 5 v1 rfl rfl) h1
  obtain ⟨a0, len, cap, rfl⟩ := okWide_slice Try.underlying36 (hval 2 36 v2 rfl rfl)
  obtain ⟨z3, rfl, rfl, rfl, w3⟩ := open_int Try.underlying5 (hval 3 5 v3 rfl rfl) h3
  simp only [Lit.wf, Bool.and_eq_true, decide_eq_true_eq] at w0 w1 w3
  have g0 : 0 ≤ z0 ∧ z0 ≤ 255 := w0
  have g1 : 0 ≤ z1 ∧ z1 ≤ 255 := w1
  have g3 : 0 ≤ z3 ∧ z3 ≤ 255 := w3
  obtain ⟨a, rfl⟩ : ∃ n : Nat, z0 = n := ⟨z0.toNat, by omega⟩
  obtain ⟨b, rfl⟩ : ∃ n : Nat, z1 = n := ⟨z1.toNat, by omega⟩
  obtain ⟨z, rfl⟩ : ∃ n : Nat, z3 = n := ⟨z3.toNat, by omega⟩
  by_cases hl6 : 6 < len
  · exact chains_long a b z a0 len cap W hl6
  by_cases hl0 : len = 0
  · exact chains_walk a b z a0 len cap [] W (by omega) (by omega) (by omega) (by omega) (.inl hl0)
  obtain ⟨fuel, hf⟩ := h2
  rcases open_strings Try.underlying36 Try.underlying9 cells9 hf with ⟨hcs, hx⟩ | ⟨ad, len', cap', ss, hcs, _, hl, hm, hz, hx, hcell, hws⟩
  · simp [Value.cells] at hcs
    omega
  · simp [Value.cells] at hcs
    obtain ⟨rfl, rfl, rfl⟩ := hcs
    simp only [Prod.mk.injEq] at hx
    obtain ⟨rfl, rfl⟩ := hx
    obtain ⟨bb, off, spot⟩ := ad
    simp only [if_true] at hz
    have hspot : spot = none := by simpa [Addr.add] using World.cell?_spot (hcell 0 (by omega))
    subst hspot
    have hbW : bb < W.heap.size := hlt (.cell bb off) (by
      simp only [List.mem_append]
      exact Or.inr (Or.inr (Or.inl (MemPlace.mem_row.2 ⟨0, by omega, by simp⟩))))
    refine chains_walk _ _ z _ len cap (ss.take len) W (by omega) (by omega) (by omega) (by omega) (.inr ⟨bb, off, rfl, hbW, fun j hj => ?_⟩)
    have := hcell j (by omega)
    rw [addr_plain] at this
    rw [this]
    simp [List.getD, List.getElem?_take, hj]
    rfl
theorem deltaChains_holds : Rows.DeltaChainsSaid :=
  OpenClaim.holds_of_wide 9 Try.f9 rfl rfl rfl rfl rfl rfl rfl ⟨rfl, rfl, rfl, rfl, rfl⟩ rfl rfl rfl rfl rfl (by kernel_rfl) Try.func9 (by kernel_rfl)
    (of_decide_eq_true (by kernel_rfl)) (by unfold Func.isWrapper; first | (rw [if_pos (by decide +kernel)]; kernel_rfl) | (rw [if_neg (by decide +kernel)]; exact ⟨rfl, rfl⟩))
    (fun os started H enc _ => deltaChains_lifted os started H enc)
#print axioms deltaChains_holds
end Go.Proofs.Ytgdmeaoghhkknaa
