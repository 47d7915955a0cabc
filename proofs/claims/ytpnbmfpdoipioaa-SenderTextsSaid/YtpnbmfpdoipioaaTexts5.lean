/- Parse, of the document. -/
import Derived.Test.YtpnbmfpdoipioaaTexts4
namespace Go.Proofs.Ytpnbmfpdoipioaa
open Go.RowKit

theorem rget8 (s : ByteArray) (w : World) (hs : s.size = 8) :
    Calls Try.prog 41 #[.string s] w fun e w' => e = .returned (.int .u64 (getJ s 8 : Nat)) ∧ Below w.heap.size w w' := by
  have := rget_any s w (by omega)
  rw [hs] at this
  exact this
set_option maxHeartbeats 2000000 in
set_option maxRecDepth 20000 in
theorem rparse_none (t : ByteArray) (w : World) (ht : t.size < 32) :
    Calls Try.prog 25 #[.string t] w fun e w' => e = .returned (.tuple #[IV 0 0 0 0 ⟨#[]⟩, .bool false]) ∧ Below w.heap.size w w' := by
  go_enter Try.func25, Try.ntmps25
  have h : (t.size : Int) < 32 := by omega
  go_wp2_with fail
  refine bodyPost_ret (v := .tuple #[IV 0 0 0 0 ⟨#[]⟩, .bool false]) ?_ rfl ⟨rfl, ?_⟩
  · simp [results, Try.results25, go_sem]
  · repeat (first | (with_reducible assumption) | (with_reducible exact Below.refl _ _) | with_reducible apply bl_drewN | with_reducible apply Below.drew | (with_reducible apply bl_alloc; focus (first | (simp; done) | (simp; omega) | omega)) | (with_reducible apply bl_set; focus (first | (simp; done) | (simp; omega) | omega)))
set_option maxHeartbeats 2000000 in
set_option maxRecDepth 20000 in
theorem rparse_ok' (t : ByteArray) (w : World) (ht : 32 ≤ t.size) (hts : t.size ≤ 100000) :
    Calls Try.prog 25 #[.string t] w fun e w' => e = .returned (.tuple #[IV (getJ (t.extract 0 8) 8 : Nat) (getJ (t.extract 8 16) 8 : Nat) (getJ (t.extract 16 24) 8 : Nat) (getJ (t.extract 24 32) 8 : Nat) (t.extract 32 t.size), .bool true]) ∧ Below w.heap.size w w' := by
  have h : ¬ (t.size : Int) < 32 := by omega
  have h8 : (8 : Int) ≤ t.size := by omega
  have h16 : (16 : Int) ≤ t.size := by omega
  have h24 : (24 : Int) ≤ t.size := by omega
  have h32 : (32 : Int) ≤ t.size := by omega
  go_enter Try.func25, Try.ntmps25
  go_wp2_with fail
  refine wp_abs1 (w.heap.size) 62 (n := w.heap.size) (w := w) (by (repeat (first | (with_reducible assumption) | (with_reducible exact Below.refl _ _) | with_reducible apply bl_drewN | with_reducible apply Below.drew | (with_reducible apply bl_alloc; focus (first | (simp; done) | (simp; omega) | omega)) | (with_reducible apply bl_set; focus (first | (simp; done) | (simp; omega) | omega))))) (by (repeat (first | (with_reducible assumption) | (with_reducible apply Blk.new'; (first | (with_reducible rfl) | (simp; done))) | with_reducible apply Blk.alloc | with_reducible apply Blk.set | ((with_reducible apply Blk.set_ne); focus (first | (simp; done) | (simp; omega))) | with_reducible apply Blk.drewN | with_reducible apply Blk.drew))) (fun W0 HB B0 => ?_)
  have HBs := HB.size
  have B0c := B0.cell; have B0f := B0.frozen; have B0l := B0.lt
  refine wp_region_gr_tail 15 (by kernel_rfl) (by kernel_rfl) ?_
  simp only [List.take_succ_cons, List.take_zero, List.drop_succ_cons, List.drop_zero]
  repeat (first
    | go_big_quiet_skip
    | ((refine BigFrame.wpQuiet_want rfl (fun K hK => quiet_mk ?_)); apply Exists.intro; refine ⟨fun wq hq => ?_, hK _ ?_⟩
       · have f0 := hq.blk B0; go_simp; (try simp only [↓IntWalk.iteOmega]); (try go_bits)
         first | done | rfl | exact ⟨rfl, rfl⟩ | (go_at_call 41; refine (rget8 _ _ (by rw [ByteArray.size_extract]; omega)).mono ?_; rintro e wr ⟨rfl, hbr⟩; exact ⟨rfl, hq.next hbr⟩)
       clear hK K; (try simp only [Act.put, List.setIfInBounds_toArray, List.set_cons_zero, List.set_cons_succ])))
  refine wpQuiet_nil ?_
  intro w1 hw1
  have HB : Below w.heap.size w w1 := Below.thn HB hw1.out HB.size
  have HBs := HB.size
  have B0 := B0.gr hw1; clear B0c B0f B0l; have B0c := B0.cell; have B0f := B0.frozen; have B0l := B0.lt
  clear hw1
  go_wp2_with fail
  refine bodyPost_ret (v := .tuple #[IV (getJ (t.extract 0 8) 8 : Nat) (getJ (t.extract 8 16) 8 : Nat) (getJ (t.extract 16 24) 8 : Nat) (getJ (t.extract 24 32) 8 : Nat) (t.extract 32 t.size), .bool true]) ?_ rfl ⟨rfl, ?_⟩
  · first | (simp [results, Try.results25, go_sem, B0c]; done) | simp [results, Try.results25, go_sem, B0c, B0l]
  · repeat (first | (with_reducible assumption) | (with_reducible exact Below.refl _ _) | with_reducible apply bl_drewN | with_reducible apply Below.drew | (with_reducible apply bl_alloc; focus (first | (simp; done) | (simp; omega) | omega)) | (with_reducible apply bl_set; focus (first | (simp; done) | (simp; omega) | omega)))
theorem rparse_ok (t : ByteArray) (w : World) (ht : 32 ≤ t.size) (hts : t.size ≤ 100000) :
    Calls Try.prog 25 #[.string t] w fun e w' => e = .returned (.tuple #[IV (pn t 0) (pn t 1) (pn t 2) (pn t 3) (pr t), .bool true]) ∧ Below w.heap.size w w' := rparse_ok' t w ht hts
end Go.Proofs.Ytpnbmfpdoipioaa
