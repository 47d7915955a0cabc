/- PoolTurns: what is held, one by one. -/
import Derived.Test.YtkfgbaieghlhkaaPoolTurnsB
namespace Go.Proofs.Ytkfgbaieghlhkaa
open Go.RowKit

theorem heldL_mem (l : List Buf) (n x : Nat) : x ∈ heldL l n ↔ x < n ∧ (l.getD x default).held = true := by
  simp [heldL, List.mem_filter]
theorem heldL_sorted (l : List Buf) (n : Nat) : (heldL l n).Pairwise (· < ·) := List.Pairwise.filter _ List.pairwise_lt_range
theorem heldL_at (l : List Buf) (n j : Nat) (hj : j < (heldL l n).length) : (heldL l n).getD j 0 < n ∧ (l.getD ((heldL l n).getD j 0) default).held = true := by
  have h : (heldL l n).getD j 0 = (heldL l n)[j] := by rw [List.getD, List.getElem?_eq_getElem hj]; rfl
  rw [h]
  exact (heldL_mem l n _).1 (List.getElem_mem hj)
theorem heldL_rise (l : List Buf) (n j : Nat) (hj : j + 1 < (heldL l n).length) : (heldL l n).getD j 0 < (heldL l n).getD (j + 1) 0 := by
  have h : (heldL l n).getD j 0 = (heldL l n)[j] := by rw [List.getD, List.getElem?_eq_getElem (by omega)]; rfl
  have h' : (heldL l n).getD (j + 1) 0 = (heldL l n)[j + 1] := by rw [List.getD, List.getElem?_eq_getElem hj]; rfl
  rw [h, h']
  exact List.pairwise_iff_getElem.1 (heldL_sorted l n) j (j + 1) (by omega) hj (by omega)
theorem own_at {w : World} {base : Nat} {a : Option Addr} {c : Nat} {hs : List Nat} (h : w.ownsRow base 3 1 (.slice a hs.length c) hs.length (nums hs)) (h0 : 0 < hs.length) :
    ∃ g, a = some ⟨g, 0, none⟩ ∧ ∀ j, j < hs.length → w.cell? ⟨g, j, none⟩ = some (.int .i64 (hs.getD j 0 : Nat)) := by
  rcases h.2 with ⟨_, h2⟩ | ⟨g, cap, cur, hv, _⟩
  · omega
  · simp only [Value.slice.injEq] at hv
    obtain ⟨rfl, _, rfl⟩ := hv
    refine ⟨g, rfl, fun j hj => ?_⟩
    rw [h.cellAt j (by omega), nums, List.getElem?_map, List.getElem?_eq_getElem hj, List.getD, List.getElem?_eq_getElem hj]; rfl
theorem raw_add (s : ByteArray) : s ++ ⟨(List.replicate (512 - s.size) 0).toArray⟩ = rawOf s := by
  apply ba_ext
  rw [ba_app]
  rfl
theorem zs_ex (s : ByteArray) (m : Nat) (hm : m = 512 - s.size) : ∃ zs : ByteArray, zs.size = m ∧ s ++ zs = rawOf s ∧ ∀ w, Calls Try.prog 30 #[.string ⟨#[0]⟩, .int .i64 m] w fun e w' => e = .returned (.string zs) ∧ Below w.heap.size w w' := by
  refine ⟨⟨(List.replicate m 0).toArray⟩, ?_, ?_, fun w => repeat_zero m w (by omega)⟩
  · show (List.replicate m 0).toArray.size = m
    rw [List.size_toArray, List.length_replicate]
  · rw [hm]; exact raw_add s
end Go.Proofs.Ytkfgbaieghlhkaa
