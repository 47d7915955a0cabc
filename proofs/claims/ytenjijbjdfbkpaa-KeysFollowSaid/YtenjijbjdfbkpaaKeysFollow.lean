/-
  Proved: KeysFollow: whatever at most 20 texts are typed, and forgotten as the bits say, the call returns true, and the arguments read behind it as before.
  Conditions: none beside the row's own.
-/
import Derived.Test.YtenjijbjdfbkpaaKeys5
import Derived.Test.YtenjijbjdfbkpaaLawKit
namespace Go.Proofs.Ytenjijbjdfbkpaa
open Go.ChangeShapes Go.WideShapes Go.ChangeAt Go.RowKit

theorem cells9 : Try.prog.cellsOf 9 = 1 := by kernel_rfl
theorem sized_strs {H : Type} {P : Program} {ts : List TypeId} {ds : List (DataW H)} (h : (DataW.weightsEach P ts ds).all (· ≤ reachBytes) = true) {j : Nat} {t e : TypeId} {ss : List ByteArray} {sp : List (DataW H)}
    (ht : ts[j]? = some t) (hd : ds[j]? = some (.slice (strs ss) sp)) (hu : P.underlying t = some (.slice e)) : ∀ s ∈ ss, s.size ≤ reachBytes := by
  intro s hs
  have key : s.size ∈ DataW.weightsAll P e (strs (H := H) ss) := by
    clear hd
    induction ss with
    | nil => cases hs
    | cons a ss ih =>
      simp only [strs, List.map_cons, DataW.weightsAll, List.mem_append]
      rcases List.mem_cons.1 hs with rfl | hs
      · left
        simp [DataW.weights]
      · right
        exact ih hs
  have := List.all_eq_true.1 h _ (DataW.weights_mem_each ht hd s.size (by simp only [DataW.weights, hu, List.mem_cons, List.mem_append]; exact Or.inr (Or.inl key)))
  simpa using this

theorem keysFollow_lifted (os : Os) (started : os.Started) (H : Type) (enc : TypeId × Value → H) :
    ReturnsInHanded {} Try.checked os 3 .any (Rows.keysFollowSpec.pre6 enc Try.prog Try.f3 [] false) (Rows.keysFollowSpec.post enc Try.prog Try.f3 false true false false) := by
  refine law_lift 3 Try.f3 Rows.keysFollowSpec [22, 23] os started H enc Try.func3 rfl rfl Try.underlying4 (by kernel_rfl) rfl
    (ChangeSpec.witness6 (enc := enc) (C := Try.checked) false ⟨#[], #[.slice none 0 0, .int .u32 0], []⟩ 8 (by kernel_rfl) (by kernel_rfl) (by kernel_rfl) (by kernel_rfl))
    (fun ds hds => by match ds, hds with | [d1, d2], _ => exact ⟨rfl, rfl, rfl⟩)
    (fun t ht => by
      simp only [List.mem_cons, List.mem_nil_iff, or_false] at ht
      rcases ht with rfl | rfl <;> exact ⟨by kernel_rfl, of_decide_eq_true (by kernel_rfl)⟩) ?_
  intro W base args ds p hval hA hlt hsz
  obtain ⟨v0, v1, d0, d1, p0, p1, rfl, rfl, rfl, h0, h1⟩ := trodAll_two hA
  obtain ⟨a0, len, cap, rfl⟩ := okWide_slice Try.underlying22 (hval 0 22 v0 rfl rfl)
  obtain ⟨f, rfl, rfl, rfl, wf⟩ := open_int Try.underlying23 (hval 1 23 v1 rfl rfl) h1
  obtain ⟨fuel, hf⟩ := h0
  have hf01 : 0 ≤ f ∧ f ≤ 4294967295 := by
    have := wf
    simp only [Lit.wf, Bool.and_eq_true, decide_eq_true_eq] at this
    exact ⟨this.1, this.2⟩
  rcases open_strings Try.underlying22 Try.underlying9 cells9 hf with ⟨hcs, hx⟩ | ⟨a, len', cap', ss, hcs, _, hl, hm, hz, hx, hcell, hws⟩
  · simp [Value.cells] at hcs
    obtain ⟨rfl, rfl, rfl⟩ := hcs
    exact follow_none none 0 f W
  · simp [Value.cells] at hcs
    obtain ⟨rfl, rfl, rfl⟩ := hcs
    simp only [Prod.mk.injEq] at hx
    obtain ⟨rfl, rfl⟩ := hx
    simp only [if_true] at hz
    have hss := sized_strs hsz (j := 0) (t := 22) (e := 9) rfl rfl Try.underlying22
    have hsl : len * Try.prog.bytesOf 9 ≤ reachBytes := by
      have := sized_slice hsz (j := 0) (t := 22) (e := 9) rfl rfl Try.underlying22
      simp only [strs, List.length_map, List.length_take, List.length_drop] at this
      exact Nat.le_trans (Nat.mul_le_mul_right _ (by omega)) this
    have hb9 : Try.prog.bytesOf 9 = 16 := by kernel_rfl
    rw [hb9] at hsl
    simp only [reachBytes] at hsl hss
    by_cases hl0 : len = 0
    · subst hl0
      exact follow_none (some a) cap f W
    by_cases h20 : 20 < len
    · exact follow_long (some a) len cap f W h20 (by omega)
    obtain ⟨b, off, spot⟩ := a
    have hspot : spot = none := by simpa [Addr.add] using World.cell?_spot (hcell 0 (by omega))
    subst hspot
    have hbW : b < W.heap.size := hlt (.cell b off) (by simp only [List.mem_append]; exact Or.inl (MemPlace.mem_row.2 ⟨0, by omega, by simp⟩))
    refine follow_some b off len cap (ss.take len) f W (by omega) hbW hf01.1 hf01.2 (by simp; omega) (fun j hj => ?_) (fun j hj => ?_)
    · have := hcell j (by omega)
      rw [show (⟨b, off, none⟩ : Addr).add j = ⟨b, off + j, none⟩ from by unfold Addr.add; split <;> simp_all] at this
      rw [this]
      simp [List.getD, List.getElem?_take, hj]
    · refine Nat.le_trans (hss _ ?_) (by omega)
      rw [List.getD_eq_getElem?_getD, List.getElem?_eq_getElem (by simp; omega), Option.getD_some]
      exact List.getElem_mem _

theorem keysFollow_holds : Rows.KeysFollowSaid :=
  OpenClaim.holds_of_wide 3 Try.f3 rfl rfl rfl rfl rfl rfl rfl ⟨rfl, rfl, rfl, rfl, rfl⟩ rfl rfl rfl rfl rfl (by kernel_rfl) Try.func3 (by kernel_rfl)
    (of_decide_eq_true (by kernel_rfl)) (by unfold Func.isWrapper; first | (rw [if_pos (by decide +kernel)]; kernel_rfl) | (rw [if_neg (by decide +kernel)]; exact ⟨rfl, rfl⟩))
    (fun os started H enc _ => keysFollow_lifted os started H enc)
#print axioms keysFollow_holds
end Go.Proofs.Ytenjijbjdfbkpaa
