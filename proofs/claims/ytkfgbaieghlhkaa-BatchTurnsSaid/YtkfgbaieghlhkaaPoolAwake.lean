/- The chapter's example. -/
import Derived.Test.YtkfgbaieghlhkaaPool9
namespace Go.Proofs.Ytkfgbaieghlhkaa
open Go.RowKit

set_option maxHeartbeats 1000000 in
theorem awake08 (w : World) : Calls Try.prog 10 #[] w fun e w' => e = .returned (.bool true) ∧ Below w.heap.size w w' := by
  go_enter Try.func10, Try.ntmps10
  go_wp2_with fail
  refine (new_any 3 _ (by omega) (by omega)).mono ?_
  rintro e w1 ⟨pb, B, rfl, P, hpb, hB, HB⟩
  have HBs := HB.size
  go_wp2_with fail
  refine (get_some pb B 3 0 0 _ ⟨#[97]⟩ _ P (by decide) (by omega) (fun j hj => by omega) rfl (by omega)).mono ?_
  rintro e w2 ⟨rfl, T, P⟩
  have HB2 := HB.trans (T.below HBs hpb hB)
  have HBs2 := HB2.size
  clear T HB HBs
  go_wp2_with fail
  refine (get_some pb B 3 1 1 _ ⟨#[98]⟩ _ P (by decide) (by omega) (fun j hj => by match j, hj with | 0, _ => rfl) rfl (by omega)).mono ?_
  rintro e w3 ⟨rfl, T, P⟩
  have HB := HB2.trans (T.below HBs2 hpb hB)
  have HBs := HB.size
  clear T HB2 HBs2
  go_wp2_with fail
  refine (put_ok pb B 3 2 0 _ _ P (by omega) rfl).mono ?_
  rintro e w4 ⟨rfl, T, P⟩
  have HB2 := HB.trans (T.below HBs hpb hB)
  have HBs2 := HB2.size
  clear T HB HBs
  go_wp2_with fail
  refine (get_some pb B 3 2 0 _ ⟨#[99]⟩ _ P (by decide) (by omega) (fun j hj => by omega) rfl (by omega)).mono ?_
  rintro e w5 ⟨rfl, T, P⟩
  have HB := HB2.trans (T.below HBs2 hpb hB)
  have HBs := HB.size
  clear T HB2 HBs2
  go_wp2_with fail
  refine (freeN_any pb B 3 3 _ _ P).mono ?_
  rintro e w6 ⟨rfl, hb⟩
  have hf : (freeN (((((fresh 3).set 0 ⟨true, ⟨#[97]⟩⟩).set 1 ⟨true, ⟨#[98]⟩⟩).set 0 ⟨false, ⟨#[]⟩⟩).set 0 ⟨true, ⟨#[99]⟩⟩) 3 : Int) = 1 := rfl
  rw [hf]
  go_wp2
  go_ret
  exact ⟨rfl, Below.thn HB hb⟩
end Go.Proofs.Ytkfgbaieghlhkaa
