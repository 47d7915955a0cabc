/- For every input: 'ShaSteps' of package vagabondlaw03 is true, and it neither panics nor changes an argument. Conditions: none. -/
import Derived.Test.YtgceepjfnncilaaStepsW
import Derived.OpenShut
namespace Go.Proofs.Ytgceepjfnncilaa
open Go.ChangeShapes Go.WideShapes Go.ChangeAt Go.RowKit
open Go.ChangeMaps (open_string)
section
variable {H : Type} {enc : TypeId × Value → H}
theorem okWide_row {P : Program} {w : World} {r : Reach} {base n : Nat} {t e : TypeId} {v : Value} (ht : P.underlying t = some (.array n e)) (h : Value.okWide P w r base t v) : ∃ cs, v = .agg cs ∧ cs.size = P.cellsOf t := by
  simp only [Value.okWide, ht] at h
  obtain ⟨cs, h1, h2, _⟩ := h
  exact ⟨cs, h1, h2⟩
set_option maxRecDepth 20000 in
theorem open_w8 {w : World} {cs : Array Value} {d : DataW H} {ps : List MemPlace} (h : DataW.Trod enc Try.prog w 0 (fun _ => true) true 35 (.agg cs) d ps) (hc : cs.size = Try.prog.cellsOf 35) :
    ∃ h0 h1 h2 h3 h4 h5 h6 h7 : Nat, cs = c35 h0 h1 h2 h3 h4 h5 h6 h7 ∧ SLt ⟨h0, h1, h2, h3, h4, h5, h6, h7⟩ := by
  obtain ⟨fuel, hf⟩ := h
  rw [show Try.prog.cellsOf 35 = 8 by kernel_rfl] at hc
  obtain ⟨xs, m, _, _, _, hxl, hx⟩ := DataW.trod_array Try.underlying35 hf
  rw [show Try.prog.cellsOf 34 = 1 by kernel_rfl] at hx
  have hg : ∀ i, i < 8 → ∃ n : Nat, cs[i]? = some (.int .u32 (n : Int)) ∧ n < 4294967296 := by
    intro i hi
    have h1 := hx i hi
    rw [List.getElem?_eq_getElem (by omega), Nat.mul_one] at h1
    obtain ⟨z, hz, _, hw⟩ := DataW.trod_int Try.underlying34 h1
    simp only [Lit.wf, Bool.and_eq_true, decide_eq_true_eq] at hw
    have g0 : 0 ≤ z ∧ z ≤ 4294967295 := hw
    refine ⟨z.toNat, ?_, by omega⟩
    rw [Int.toNat_of_nonneg g0.1]
    have h2 : ((Value.cells (.agg cs)).toList.drop i)[0]? = some (.int .u32 z) := by
      have h3 := congrArg (·[0]?) hz
      simpa using h3
    rw [List.getElem?_drop, Nat.add_zero] at h2
    simpa [Value.cells] using h2
  obtain ⟨h0, e0, l0⟩ := hg 0 (by decide)
  obtain ⟨h1, e1, l1⟩ := hg 1 (by decide)
  obtain ⟨h2, e2, l2⟩ := hg 2 (by decide)
  obtain ⟨h3, e3, l3⟩ := hg 3 (by decide)
  obtain ⟨h4, e4, l4⟩ := hg 4 (by decide)
  obtain ⟨h5, e5, l5⟩ := hg 5 (by decide)
  obtain ⟨h6, e6, l6⟩ := hg 6 (by decide)
  obtain ⟨h7, e7, l7⟩ := hg 7 (by decide)
  refine ⟨h0, h1, h2, h3, h4, h5, h6, h7, ?_, ⟨l0, l1, l2, l3, l4, l5, l6, l7⟩⟩
  match cs, hc, e0, e1, e2, e3, e4, e5, e6, e7 with
  | ⟨[x0, x1, x2, x3, x4, x5, x6, x7]⟩, _, e0, e1, e2, e3, e4, e5, e6, e7 =>
    have f0 : x0 = _ := Option.some.inj e0
    have f1 : x1 = _ := Option.some.inj e1
    have f2 : x2 = _ := Option.some.inj e2
    have f3 : x3 = _ := Option.some.inj e3
    have f4 : x4 = _ := Option.some.inj e4
    have f5 : x5 = _ := Option.some.inj e5
    have f6 : x6 = _ := Option.some.inj e6
    have f7 : x7 = _ := Option.some.inj e7
    rw [f0, f1, f2, f3, f4, f5, f6, f7]
end
set_option maxRecDepth 100000 in
theorem shaSteps_lifted (os : Os) (started : os.Started) (H : Type) (enc : TypeId × Value → H) :
    ReturnsInHanded {} Try.checked os 5 .any (Rows.shaStepsSpec.pre6 enc Try.prog Try.f5 [] false) (Rows.shaStepsSpec.post enc Try.prog Try.f5 false true false false) := by
  refine law_lift 5 Try.f5 Rows.shaStepsSpec [35, 9] os started H enc Try.func5 rfl rfl Try.underlying4 (by kernel_rfl) rfl
    (ChangeSpec.witness6 (enc := enc) (C := Try.checked) false ⟨#[], #[.agg #[.int .u32 0, .int .u32 0, .int .u32 0, .int .u32 0, .int .u32 0, .int .u32 0, .int .u32 0, .int .u32 0], .string ⟨#[]⟩], []⟩ 8 (by kernel_rfl) (by kernel_rfl) (by kernel_rfl) (by kernel_rfl))
    (fun ds hds => by match ds, hds with | [d0, d1], _ => exact ⟨rfl, rfl, rfl⟩)
    (fun t ht => by
      simp only [List.mem_cons, List.mem_nil_iff, or_false] at ht
      rcases ht with rfl | rfl <;> exact ⟨by kernel_rfl, of_decide_eq_true (by kernel_rfl)⟩) ?_
  intro W base args ds p hval hA hlt hsz
  obtain ⟨v0, vs0, d0, ds0, p0, q0, e0, rfl, rfl, h0, r0⟩ := trodAll_cons hA
  obtain ⟨v1, vs1, d1, ds1, p1, q1, e1, rfl, rfl, h1, r1⟩ := trodAll_cons r0
  obtain ⟨rfl, rfl, rfl⟩ := trodAll_nil r1
  subst e1
  obtain rfl : args = #[v0, v1] := Array.ext' e0
  have hszj : ∀ (j : Nat) (t : TypeId) (d : DataW H), [35, 9][j]? = some t → [d0, d1][j]? = some d → (d.weights Try.prog t).all (· ≤ reachBytes) = true := fun j t d ht hd => by
    rw [List.all_eq_true] at hsz ⊢
    exact fun y hy => hsz y (DataW.weights_mem_each ht hd y hy)
  obtain ⟨cs, rfl, hcs⟩ := okWide_row Try.underlying35 (hval 0 35 v0 rfl rfl)
  obtain ⟨a0, a1, a2, a3, a4, a5, a6, a7, rfl, hwd⟩ := open_w8 h0 hcs
  obtain ⟨s, rfl, rfl, rfl, _⟩ := open_string Try.underlying9 (hval 1 9 v1 rfl rfl) h1
  have hs := str_reach (hszj 1 9 _ rfl rfl)
  by_cases hl : 300 < s.size
  · exact steps_long a0 a1 a2 a3 a4 a5 a6 a7 s W hl (by omega)
  · exact steps_walk a0 a1 a2 a3 a4 a5 a6 a7 hwd s W (by omega)
theorem shaSteps_holds : Rows.ShaStepsSaid :=
  OpenClaim.holds_of_wide 5 Try.f5 rfl rfl rfl rfl rfl rfl rfl ⟨rfl, rfl, rfl, rfl, rfl⟩ rfl rfl rfl rfl rfl (by kernel_rfl) Try.func5 (by kernel_rfl)
    (of_decide_eq_true (by kernel_rfl)) (by unfold Func.isWrapper; first | (rw [if_pos (by decide +kernel)]; kernel_rfl) | (rw [if_neg (by decide +kernel)]; exact ⟨rfl, rfl⟩))
    (fun os started H enc _ => shaSteps_lifted os started H enc)
#print axioms shaSteps_holds
end Go.Proofs.Ytgceepjfnncilaa
