/- Package aes: New, of a key that may not be. -/
import Derived.Test.YtkblkdojmfgneaaAes7
namespace Go.Proofs.Ytkblkdojmfgneaa
open Go.RowKit

theorem zkey_one : Try.zeroCells29.all (·.oneCell') = true := by kernel_rfl
theorem zkey_size : Try.zeroCells29.size = 433 := by kernel_rfl
set_option maxHeartbeats 4000000 in
set_option maxRecDepth 20000 in
theorem new_bad (key : ByteArray) (w : World) (hk : key.size ≠ 16) : Calls Try.prog 15 #[.string key] w fun e w' => e = .returned (.tuple #[.agg Try.zeroCells29, .int .i64 4]) ∧ Below w.heap.size w w' := by
  have hki : ¬ (key.size : Int) = 16 := by omega
  go_enter Try.func15, Try.ntmps15
  go_upto_region 2 with fail
  have Z : Blk (w.alloc (Obj.cells Try.zeroCells29 29)) w.heap.size Try.zeroCells29 29 := Blk.new _ _ _
  have HB : Below w.heap.size w (w.alloc (Obj.cells Try.zeroCells29 29)) := by (repeat (first | (with_reducible assumption) | (with_reducible exact Below.refl _ _) | with_reducible apply bl_drewN | with_reducible apply Below.drew | (with_reducible apply bl_alloc; focus (first | (simp; done) | (simp; omega) | omega)) | (with_reducible apply bl_set; focus (first | (simp; done) | (simp; omega) | omega))))
  refine wp_absQ (fun W => Below w.heap.size w W ∧ Blk W w.heap.size Try.zeroCells29 29) ⟨HB, Z⟩ (fun W1 V1 => ?_)
  clear HB Z
  obtain ⟨HB, Z⟩ := V1
  go_wp2_with (refine wpList_put rfl 29 _ _ rfl w.heap.size _ Try.zeroCells29 29 rfl rfl Z (by rw [zkey_size]; kernel_rfl) rfl zkey_one (fun W9 hp9 B9 => ?_))
  refine bodyPost_ret (v := .tuple #[.agg Try.zeroCells29, .int .i64 4]) ?_ rfl ⟨rfl, hp9.below (Nat.le_refl _) HB⟩
  exact results_cell_tmp (Try.results15) _ _ w.heap.size 29 _ (0, 0) _ _ rfl rfl B9.out Try.underlying29 rfl (by rw [zkey_size]; kernel_rfl)
end Go.Proofs.Ytkblkdojmfgneaa
