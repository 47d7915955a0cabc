/- The chapter's example, as the statements of layer 13 ask it. -/
import Derived.Test.YtenjijbjdfbkpaaKeys2
import Derived.Test.YtenjijbjdfbkpaaKeys3
namespace Go.Proofs.Ytenjijbjdfbkpaa
open Go.RowKit

theorem ab_ext : (⟨#[97, 98]⟩ : ByteArray).extract 1 2 = ⟨#[98]⟩ := by decide
theorem ab_app : (⟨#[]⟩ : ByteArray) ++ ⟨#[97, 98]⟩ = ⟨#[97, 98]⟩ := by decide
set_option maxHeartbeats 400000 in
theorem awake_any (w : World) : Calls Try.prog 7 #[] w fun e w' => e = .returned (.bool true) ∧ Below w.heap.size w w' := by
  have h1 := fun W => type_ok 0 ⟨#[]⟩ ⟨#[97, 98]⟩ W (by omega) (by decide) (by decide)
  rw [ab_app] at h1
  have h2 := fun W => since_in 0 1 ⟨#[97, 98]⟩ W (by omega) (by decide) (by omega) (by decide)
  simp only [show (1 - 0 : Nat) = 1 from rfl, show (⟨#[97, 98]⟩ : ByteArray).size = 2 from rfl, ab_ext] at h2
  go_enter Try.func7, Try.ntmps7
  go_wp2_with fail
  go_fit (h1 _)
  rintro e w1 ⟨rfl, hb⟩
  clear h1
  go_wp2_with fail
  go_fit (h2 _)
  rintro e w2 ⟨rfl, hb2⟩
  go_wp2
  go_ret
  exact ⟨rfl, Below.thn (bl_alloc hb.size hb) hb2 (by have := hb.size; simp; omega)⟩
end Go.Proofs.Ytenjijbjdfbkpaa
