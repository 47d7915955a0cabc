/- For every input: 'BatchNil' of package vagabondlaw22 is true, and it neither panics nor changes an argument. Conditions: none. -/
import Derived.Test.YtkfgbaieghlhkaaBatchAwake
import Derived.Test.YtkfgbaieghlhkaaLawKit
namespace Go.Proofs.Ytkfgbaieghlhkaa
open Go.ChangeShapes Go.WideShapes Go.ChangeAt Go.RowKit

set_option maxHeartbeats 1000000 in
theorem batchNil_walk (w : World) : Calls Try.prog 5 #[] w fun e w' => e = .returned (.bool true) ∧ Below w.heap.size w w' := by
  go_enter Try.func5, Try.ntmps5
  go_wp2_with fail
  refine (awake22 _).mono ?_
  rintro e w1 ⟨rfl, HB⟩
  have HBs := HB.size
  go_wp2_with fail
  refine (bnew_nil 1 _).mono ?_
  rintro e w2 ⟨rfl, rfl⟩
  go_wp2_with fail
  refine (add_nil _ _ _ _ rfl rfl).mono ?_
  rintro e w3 ⟨rfl, hb⟩
  have HB3 := Below.thn HB hb
  have HBs3 := HB3.size
  go_wp2_with (first
    | (go_at_call 23; refine (flush_nil _).mono ?_; rintro e w2 ⟨rfl, rfl⟩)
    | (go_at_call 24; refine (len_nil _).mono ?_; rintro e w2 ⟨rfl, rfl⟩)
    | (go_at_call 25; refine (full_nil _).mono ?_; rintro e w4 ⟨rfl, hb4⟩))
  go_ret
  exact ⟨rfl, Below.thn HB3 hb4⟩

theorem batchNil_lifted (os : Os) (started : os.Started) (H : Type) (enc : TypeId × Value → H) :
    ReturnsInHanded {} Try.checked os 5 .any (Rows.batchNilSpec.pre6 enc Try.prog Try.f5 [] false) (Rows.batchNilSpec.post enc Try.prog Try.f5 false true false false) := by
  refine law_lift 5 Try.f5 Rows.batchNilSpec [] os started H enc Try.func5 rfl rfl Try.underlying4 (by kernel_rfl) rfl
    (ChangeSpec.witness6 (enc := enc) (C := Try.checked) false ⟨#[], #[], []⟩ 8 (by kernel_rfl) (by kernel_rfl) (by kernel_rfl) (by kernel_rfl))
    (fun ds hds => by match ds, hds with | [], _ => exact ⟨rfl, rfl, rfl⟩)
    (fun t ht => by cases ht) ?_
  intro W base args ds p hval hA hlt hsz
  obtain ⟨e0, rfl, rfl⟩ := trodAll_nil hA
  obtain rfl : args = #[] := Array.ext' e0
  exact batchNil_walk W
theorem batchNil_holds : Rows.BatchNilSaid :=
  OpenClaim.holds_of_wide 5 Try.f5 rfl rfl rfl rfl rfl rfl rfl ⟨rfl, rfl, rfl, rfl, rfl⟩ rfl rfl rfl rfl rfl (by kernel_rfl) Try.func5 (by kernel_rfl)
    (of_decide_eq_true (by kernel_rfl)) (by unfold Func.isWrapper; first | (rw [if_pos (by decide +kernel)]; kernel_rfl) | (rw [if_neg (by decide +kernel)]; exact ⟨rfl, rfl⟩))
    (fun os started H enc _ => batchNil_lifted os started H enc)
#print axioms batchNil_holds
end Go.Proofs.Ytkfgbaieghlhkaa
