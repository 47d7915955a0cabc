/- Package ctr: Block. -/
import Derived.Test.YtkblkdojmfgneaaCtrL
import Derived.Test.YtkblkdojmfgneaaShaC
import Derived.Test.YtkblkdojmfgneaaAwk5
namespace Go.Proofs.Ytkblkdojmfgneaa
open Go.RowKit

theorem ba_list (a b : List UInt8) : (⟨a.toArray⟩ : ByteArray) ++ ⟨b.toArray⟩ = ⟨(a ++ b).toArray⟩ := ba_ext (by rw [ba_app])
theorem brow_range {w : World} {g : Nat} {l : List UInt8} (h : BRow w g l) : w.rangeAt g 0 (l.map bval) := fun j v hv => by
  have hj : j < l.length := by have := (List.getElem?_eq_some_iff.1 hv).1; rwa [List.length_map] at this
  rw [Nat.zero_add, h.cell j hj, ← hv, List.getElem?_map, List.getD_eq_getElem?_getD, List.getElem?_eq_getElem hj]; rfl
theorem arr_at (W : World) (t e : TypeId) (g o n cap : Nat) (hu : Try.prog.underlying t = some (.array n e)) : (Instr.arrayAt t (.slice (some ⟨g, o, none⟩) n cap)).run Try.prog W = .ok (.pointer (some ⟨g, o, none⟩)) W := by
  unfold Instr.arrayAt
  rw [Sem.run_bind, run_underlying hu W]
  simp
set_option maxHeartbeats 4000000 in
set_option maxRecDepth 20000 in
theorem block_any (a c : Nat) (ha : a ≤ 18446744073709551615) (hc : c ≤ 18446744073709551615) (w : World) : Calls Try.prog 16 #[.int .u64 (a : Int), .int .u64 (c : Int)] w fun e w' => e = .returned (.agg (bcells (ctrB a c))) ∧ Below w.heap.size w w' := by
  have hln := ctrB_len a c
  go_enter Try.func16, Try.ntmps16
  go_wp2_with fail
  refine (wput_any a 8 _ ha (by decide) (by decide)).mono ?_
  rintro e W1 ⟨rfl, hb⟩
  have HB1 : Below w.heap.size w W1 := Below.thn (by (repeat (first | (with_reducible assumption) | (with_reducible exact Below.refl _ _) | with_reducible apply bl_drewN | with_reducible apply Below.drew | (with_reducible apply bl_alloc; focus (first | (simp; done) | (simp; omega) | omega)) | (with_reducible apply bl_set; focus (first | (simp; done) | (simp; omega) | omega))))) hb
  have Z1 : Blk W1 w.heap.size z16 25 := Blk.below (Blk.new' rfl) hb
  clear hb
  have hs1 := HB1.size
  go_wp2_with fail
  refine (wput_any c 8 _ hc (by decide) (by decide)).mono ?_
  rintro e W2 ⟨rfl, hb⟩
  have HB2 := Below.thn HB1 hb hs1
  have Z2 := Z1.below hb
  have hs2 := HB2.size
  clear hb HB1 Z1 hs1
  have hba := ba_list (putB a 8) (putB c 8)
  rw [show putB a 8 ++ putB c 8 = ctrB a c from rfl] at hba
  obtain ⟨s, hs⟩ : ∃ s : ByteArray, (⟨(ctrB a c).toArray⟩ : ByteArray) = s := ⟨_, rfl⟩
  have hsz : s.size = 16 := by rw [← hs, ba_size]; simp [hln]
  obtain ⟨v, W3, hcv, hrow, hb3⟩ := conv_crow s W2 9 36 5 Try.underlying9 Try.underlying36 Try.underlying5 (by omega)
  have HB3 := Below.thn HB2 hb3 hs2
  have Z3 := Z2.below hb3
  rw [hsz] at hrow
  have hsl : s.data.toList = ctrB a c := by rw [← hs]
  rw [hsl] at hrow
  obtain ⟨g, cap, rfl, hg, R⟩ := hrow.bytes
  have hrg := brow_range R
  have hrl : ((ctrB a c).map bval).length = 16 := by rw [List.length_map, hln]
  have hbs := bcells_len _ hln
  have hone := bcells_one (ctrB a c)
  obtain ⟨X, hX⟩ : ∃ X, bcells (ctrB a c) = X := ⟨_, rfl⟩
  have hX' : ((ctrB a c).map bval).toArray = X := hX
  rw [hs] at hba
  clear hrow hs hsl Z2 HB2
  have hXs : X.size = 16 := by rw [← hX]; exact hbs
  rw [hX] at hone
  have harr : ∀ W, (Instr.arrayAt 25 (.slice (some ⟨g, 0, none⟩) 16 cap)).run Try.prog W = .ok (.pointer (some ⟨g, 0, none⟩)) W := fun W => arr_at W 25 _ g 0 16 cap Try.underlying25
  have hp1 := putB_len a 8; have hp2 := putB_len c 8
  clear hX hbs
  go_wp2_with (first | (refine wpList_load_mid rfl 25 _ rfl g 0 rfl _ _ hrg Try.underlying25 rfl (by rw [hrl]; kernel_rfl) ?_) | (refine wpList_put rfl 25 _ _ rfl w.heap.size _ X 25 rfl (by rw [← hX']; rfl) Z3 (by rw [hXs]; kernel_rfl) (hXs.trans rfl) hone (fun W9 hp9 B9 => ?_)))
  refine bodyPost_ret (v := .agg X) ?_ rfl ⟨by rw [← hX']; rfl, hp9.below (Nat.le_refl _) HB3⟩
  exact results_cell_row (Try.results16) _ _ w.heap.size 25 _ (0, 0) _ rfl B9.out Try.underlying25 rfl (by rw [hXs]; kernel_rfl)
end Go.Proofs.Ytkblkdojmfgneaa
