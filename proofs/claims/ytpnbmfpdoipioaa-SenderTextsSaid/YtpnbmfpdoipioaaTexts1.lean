/- Instructions as texts: Text, of the program and of the document; Put of the document. -/
import Derived.Test.YtpnbmfpdoipioaaSndAwake
namespace Go.Proofs.Ytpnbmfpdoipioaa
open Go.RowKit

def textB (a b c d : Nat) (s : ByteArray) : ByteArray := putB a 8 ++ putB b 8 ++ putB c 8 ++ putB d 8 ++ s
set_option maxHeartbeats 2000000 in
set_option maxRecDepth 20000 in
theorem text_any (a b c d : Nat) (s : ByteArray) (w : World) (ha : a ≤ 18446744073709551615) (hb : b ≤ 18446744073709551615) (hc : c ≤ 18446744073709551615) (hd : d ≤ 18446744073709551615) (hs : s.size ≤ 100000) :
    Calls Try.prog 24 #[IV a b c d s] w fun e w' => e = .returned (.string (textB a b c d s)) ∧ Below w.heap.size w w' := by
  have z1 : (putB a 8).size = 8 := putB_size a 8
  have z2 : (putB b 8).size = 8 := putB_size b 8
  have z3 : (putB c 8).size = 8 := putB_size c 8
  have z4 : (putB d 8).size = 8 := putB_size d 8
  have y1 : (putB a 8 ++ putB b 8).size = 16 := by rw [sz_app, z1, z2]
  have y2 : (putB a 8 ++ putB b 8 ++ putB c 8).size = 24 := by rw [sz_app, y1, z3]
  have y3 : (putB a 8 ++ putB b 8 ++ putB c 8 ++ putB d 8).size = 32 := by rw [sz_app, y2, z4]
  unfold textB
  have r1 : ∀ W, (Op.stringOp .add (putB a 8) (putB b 8)).run Try.prog W = .ok (.string (putB a 8 ++ putB b 8)) W := fun W => run_string_add_sum W _ _ (by omega)
  have r2 : ∀ W, (Op.stringOp .add (putB a 8 ++ putB b 8) (putB c 8)).run Try.prog W = .ok (.string (putB a 8 ++ putB b 8 ++ putB c 8)) W := fun W => run_string_add_sum W _ _ (by omega)
  have r3 : ∀ W, (Op.stringOp .add (putB a 8 ++ putB b 8 ++ putB c 8) (putB d 8)).run Try.prog W = .ok (.string (putB a 8 ++ putB b 8 ++ putB c 8 ++ putB d 8)) W := fun W => run_string_add_sum W _ _ (by omega)
  have r4 : ∀ W, (Op.stringOp .add (putB a 8 ++ putB b 8 ++ putB c 8 ++ putB d 8) s).run Try.prog W = .ok (.string (putB a 8 ++ putB b 8 ++ putB c 8 ++ putB d 8 ++ s)) W := fun W => run_string_add_sum W _ _ (by omega)
  clear z1 z2 z3 z4 y1 y2 y3
  go_enter Try.func24, Try.ntmps24
  go_wp2_with fail
  refine wp_abs1 (w.heap.size) 38 (n := w.heap.size) (w := w) (by (repeat (first | (with_reducible assumption) | (with_reducible exact Below.refl _ _) | with_reducible apply bl_drewN | with_reducible apply Below.drew | (with_reducible apply bl_alloc; focus (first | (simp; done) | (simp; omega) | omega)) | (with_reducible apply bl_set; focus (first | (simp; done) | (simp; omega) | omega))))) (by (repeat (first | (with_reducible assumption) | (with_reducible apply Blk.new'; (first | (with_reducible rfl) | (simp; done))) | with_reducible apply Blk.alloc | with_reducible apply Blk.set | ((with_reducible apply Blk.set_ne); focus (first | (simp; done) | (simp; omega))) | with_reducible apply Blk.drewN | with_reducible apply Blk.drew))) (fun W0 HB B0 => ?_)
  have HBs := HB.size
  have B0c := B0.cell; have B0f := B0.frozen; have B0l := B0.lt
  refine wp_region_gr_tail 17 (by kernel_rfl) (by kernel_rfl) ?_
  simp only [List.take_succ_cons, List.take_zero, List.drop_succ_cons, List.drop_zero]
  repeat (first
    | go_big_quiet_skip
    | ((refine BigFrame.wpQuiet_want rfl (fun K hK => quiet_mk ?_)); apply Exists.intro; refine ⟨fun wq hq => ?_, hK _ ?_⟩
       · have f0 := hq.blk B0; go_simp; (try simp only [↓IntWalk.iteOmega]); (try go_bits)
         first | done | rfl | exact ⟨rfl, rfl⟩ | (go_at_call 40; refine (put_any _ 8 _ (by assumption) (by omega)).mono ?_; rintro e wr ⟨rfl, hbr⟩; exact ⟨rfl, hq.next hbr⟩)
       clear hK K; (try simp only [Act.put, List.setIfInBounds_toArray, List.set_cons_zero, List.set_cons_succ])))
  refine wpQuiet_nil ?_
  intro w1 hw1
  have HB : Below w.heap.size w w1 := Below.thn HB hw1.out HB.size
  have HBs := HB.size
  have B0 := B0.gr hw1; clear B0c B0f B0l; have B0c := B0.cell; have B0f := B0.frozen; have B0l := B0.lt
  clear hw1
  go_wp2
  go_ret
  exact ⟨rfl, HB⟩
end Go.Proofs.Ytpnbmfpdoipioaa
