/- The contract of Same of package keys. -/
import Derived.Test.YtenjijbjdfbkpaaKeys1
namespace Go.Proofs.Ytenjijbjdfbkpaa
open Go.RowKit

/-- Of two texts, as far as both have them: the ends. -/
def sameB (s t : ByteArray) : Bool := if s.size ≤ t.size then s.toList == (t.extract (t.size - s.size) t.size).toList else (s.extract (s.size - t.size) s.size).toList == t.toList

set_option maxHeartbeats 400000 in
theorem same_any (a b : Nat) (s t : ByteArray) (w : World) (ha : a ≤ 1000000) (hs : s.size ≤ 1000) (hb : b ≤ 1000000) (ht : t.size ≤ 1000) :
    Calls Try.prog 11 #[KV a s, KV b t] w fun e w' => e = .returned (.bool (decide (a + s.size = b + t.size) && sameB s t)) ∧ Below w.heap.size w w' := by
  by_cases he : a + s.size = b + t.size
  · have he' : (a : Int) + s.size = b + t.size := by omega
    have HE2 : Hid (a + s.size = b + t.size) := he
    have he2 : ((a : Int) + s.size == b + t.size) = true := by simpa using he'
    have he3 : ((a : Int) + s.size != b + t.size) = false := by simpa using he'
    clear he'
    by_cases hm : s.size ≤ t.size
    · have hn : (s.size : Int) ≤ t.size := by omega
      go_enter Try.func11, Try.ntmps11
      clear he
      go_wp2_with fail
      refine wp_abs2 (w.heap.size) 27 (w.heap.size+1) 27 (n := w.heap.size) (w := w) (by (repeat (first | (with_reducible assumption) | (with_reducible exact Below.refl _ _) | with_reducible apply bl_drewN | with_reducible apply Below.drew | (with_reducible apply bl_alloc; focus (first | (simp; done) | (simp; omega) | omega)) | (with_reducible apply bl_set; focus (first | (simp; done) | (simp; omega) | omega))))) (by (repeat (first | (with_reducible assumption) | (with_reducible apply Blk.new'; (first | (with_reducible rfl) | (simp; done))) | with_reducible apply Blk.alloc | with_reducible apply Blk.set | ((with_reducible apply Blk.set_ne); focus (first | (simp; done) | (simp; omega))) | with_reducible apply Blk.drewN | with_reducible apply Blk.drew))) (by (repeat (first | (with_reducible assumption) | (with_reducible apply Blk.new'; (first | (with_reducible rfl) | (simp; done))) | with_reducible apply Blk.alloc | with_reducible apply Blk.set | ((with_reducible apply Blk.set_ne); focus (first | (simp; done) | (simp; omega))) | with_reducible apply Blk.drewN | with_reducible apply Blk.drew))) (fun W0 HB B0 B1 => ?_)
      have HBs := HB.size
      have B0c := B0.cell; have B0f := B0.frozen; have B0l := B0.lt
      have B1c := B1.cell; have B1f := B1.frozen; have B1l := B1.lt
      refine wp_region_gr (by kernel_rfl) (by kernel_rfl) ?_
      repeat (first
        | go_big_quiet_skip
        | ((refine BigFrame.wpQuiet_want rfl (fun K hK => quiet_mk ?_)); apply Exists.intro; refine ⟨fun wq hq => ?_, hK _ ?_⟩
           · have f0 := hq.blk B0; have f1 := hq.blk B1; go_simp; (try simp only [↓IntWalk.iteOmega]); (try go_bits)
             first | done | rfl | exact ⟨rfl, rfl⟩ | (go_at_call 22; refine (end_any _ _ _ (by assumption) (by assumption)).mono ?_; rintro e wr ⟨rfl, hbr⟩; exact ⟨rfl, hq.next hbr⟩)
           clear hK K; (try simp only [Act.put, List.setIfInBounds_toArray, List.set_cons_zero, List.set_cons_succ])))
      refine wpQuiet_nil ?_
      intro w1 hw1
      have HB : Below w.heap.size w w1 := Below.thn HB hw1.out HB.size
      have HBs := HB.size
      have B0 := B0.gr hw1; clear B0c B0f B0l; have B0c := B0.cell; have B0f := B0.frozen; have B0l := B0.lt
      have B1 := B1.gr hw1; clear B1c B1f B1l; have B1c := B1.cell; have B1f := B1.frozen; have B1l := B1.lt
      clear hw1
      go_wp2_with fail
      go_quiet (fail)
      go_wp2
      go_ret
      exact ⟨by simp [sameB, hm, HE2.out], HB.trans (Below.drewN' HB.size _)⟩
    · have hn : ¬ (s.size : Int) ≤ t.size := by omega
      go_enter Try.func11, Try.ntmps11
      clear he
      go_wp2_with fail
      refine wp_abs2 (w.heap.size) 27 (w.heap.size+1) 27 (n := w.heap.size) (w := w) (by (repeat (first | (with_reducible assumption) | (with_reducible exact Below.refl _ _) | with_reducible apply bl_drewN | with_reducible apply Below.drew | (with_reducible apply bl_alloc; focus (first | (simp; done) | (simp; omega) | omega)) | (with_reducible apply bl_set; focus (first | (simp; done) | (simp; omega) | omega))))) (by (repeat (first | (with_reducible assumption) | (with_reducible apply Blk.new'; (first | (with_reducible rfl) | (simp; done))) | with_reducible apply Blk.alloc | with_reducible apply Blk.set | ((with_reducible apply Blk.set_ne); focus (first | (simp; done) | (simp; omega))) | with_reducible apply Blk.drewN | with_reducible apply Blk.drew))) (by (repeat (first | (with_reducible assumption) | (with_reducible apply Blk.new'; (first | (with_reducible rfl) | (simp; done))) | with_reducible apply Blk.alloc | with_reducible apply Blk.set | ((with_reducible apply Blk.set_ne); focus (first | (simp; done) | (simp; omega))) | with_reducible apply Blk.drewN | with_reducible apply Blk.drew))) (fun W0 HB B0 B1 => ?_)
      have HBs := HB.size
      have B0c := B0.cell; have B0f := B0.frozen; have B0l := B0.lt
      have B1c := B1.cell; have B1f := B1.frozen; have B1l := B1.lt
      refine wp_region_gr (by kernel_rfl) (by kernel_rfl) ?_
      repeat (first
        | go_big_quiet_skip
        | ((refine BigFrame.wpQuiet_want rfl (fun K hK => quiet_mk ?_)); apply Exists.intro; refine ⟨fun wq hq => ?_, hK _ ?_⟩
           · have f0 := hq.blk B0; have f1 := hq.blk B1; go_simp; (try simp only [↓IntWalk.iteOmega]); (try go_bits)
             first | done | rfl | exact ⟨rfl, rfl⟩ | (go_at_call 22; refine (end_any _ _ _ (by assumption) (by assumption)).mono ?_; rintro e wr ⟨rfl, hbr⟩; exact ⟨rfl, hq.next hbr⟩)
           clear hK K; (try simp only [Act.put, List.setIfInBounds_toArray, List.set_cons_zero, List.set_cons_succ])))
      refine wpQuiet_nil ?_
      intro w1 hw1
      have HB : Below w.heap.size w w1 := Below.thn HB hw1.out HB.size
      have HBs := HB.size
      have B0 := B0.gr hw1; clear B0c B0f B0l; have B0c := B0.cell; have B0f := B0.frozen; have B0l := B0.lt
      have B1 := B1.gr hw1; clear B1c B1f B1l; have B1c := B1.cell; have B1f := B1.frozen; have B1l := B1.lt
      clear hw1
      go_wp2_with fail
      go_quiet (fail)
      go_wp2
      go_ret
      exact ⟨by simp [sameB, hm, HE2.out], HB.trans (Below.drewN' HB.size _)⟩
  · have he2 : ((a : Int) + s.size == b + t.size) = false := by simp; omega
    have he3 : ((a : Int) + s.size != b + t.size) = true := by simp; omega
    go_enter Try.func11, Try.ntmps11
    go_wp2_with fail
    refine wp_abs2 (w.heap.size) 27 (w.heap.size+1) 27 (n := w.heap.size) (w := w) (by (repeat (first | (with_reducible assumption) | (with_reducible exact Below.refl _ _) | with_reducible apply bl_drewN | with_reducible apply Below.drew | (with_reducible apply bl_alloc; focus (first | (simp; done) | (simp; omega) | omega)) | (with_reducible apply bl_set; focus (first | (simp; done) | (simp; omega) | omega))))) (by (repeat (first | (with_reducible assumption) | (with_reducible apply Blk.new'; (first | (with_reducible rfl) | (simp; done))) | with_reducible apply Blk.alloc | with_reducible apply Blk.set | ((with_reducible apply Blk.set_ne); focus (first | (simp; done) | (simp; omega))) | with_reducible apply Blk.drewN | with_reducible apply Blk.drew))) (by (repeat (first | (with_reducible assumption) | (with_reducible apply Blk.new'; (first | (with_reducible rfl) | (simp; done))) | with_reducible apply Blk.alloc | with_reducible apply Blk.set | ((with_reducible apply Blk.set_ne); focus (first | (simp; done) | (simp; omega))) | with_reducible apply Blk.drewN | with_reducible apply Blk.drew))) (fun W0 HB B0 B1 => ?_)
    have HBs := HB.size
    have B0c := B0.cell; have B0f := B0.frozen; have B0l := B0.lt
    have B1c := B1.cell; have B1f := B1.frozen; have B1l := B1.lt
    refine wp_region_gr (by kernel_rfl) (by kernel_rfl) ?_
    repeat (first
      | go_big_quiet_skip
      | ((refine BigFrame.wpQuiet_want rfl (fun K hK => quiet_mk ?_)); apply Exists.intro; refine ⟨fun wq hq => ?_, hK _ ?_⟩
         · have f0 := hq.blk B0; have f1 := hq.blk B1; go_simp; (try simp only [↓IntWalk.iteOmega]); (try go_bits)
           first | done | rfl | exact ⟨rfl, rfl⟩ | (go_at_call 22; refine (end_any _ _ _ (by assumption) (by assumption)).mono ?_; rintro e wr ⟨rfl, hbr⟩; exact ⟨rfl, hq.next hbr⟩)
         clear hK K; (try simp only [Act.put, List.setIfInBounds_toArray, List.set_cons_zero, List.set_cons_succ])))
    refine wpQuiet_nil ?_
    intro w1 hw1
    have HB : Below w.heap.size w w1 := Below.thn HB hw1.out HB.size
    have HBs := HB.size
    have B0 := B0.gr hw1; clear B0c B0f B0l; have B0c := B0.cell; have B0f := B0.frozen; have B0l := B0.lt
    have B1 := B1.gr hw1; clear B1c B1f B1l; have B1c := B1.cell; have B1f := B1.frozen; have B1l := B1.lt
    clear hw1
    go_wp2
    go_ret
    exact ⟨by simp [he], HB⟩
end Go.Proofs.Ytenjijbjdfbkpaa
