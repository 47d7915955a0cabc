/- Package vagabondlaw11: awake. -/
import Derived.Test.YtgdmeaoghhkknaaScr2
namespace Go.Proofs.Ytgdmeaoghhkknaa
open Go.RowKit

theorem run_str_eq (s : ByteArray) (w : World) : (binOp .eql 9 (.string s) (.string s)).run Try.prog w = .ok (.bool true) w := by simp [go_sem]
set_option maxHeartbeats 1000000 in
set_option maxRecDepth 20000 in
theorem awake11 (w : World) : Calls Try.prog 11 #[] w fun e w' => e = .returned (.bool true) ∧ Below w.heap.size w w' := by
  have hpt : putL (newS 3 2) [97, 98, 99, 100] = ⟨3, 2, 1, 1, [97, 98, 99, 100, 32, 32]⟩ := by rfl
  have c1 : ∀ W, Calls Try.prog 12 #[.int .i64 3, .int .i64 2] W fun e w' => e = .returned (.tuple #[VV 3 2 0 0 (txt [32, 32, 32, 32, 32, 32]), .int .i64 0]) ∧ Below W.heap.size W w' := fun W => new_any 3 2 W (by decide) (by decide) (by decide) (by decide)
  have c2 : ∀ W, Calls Try.prog 14 #[VV 3 2 0 0 (txt [32, 32, 32, 32, 32, 32]), .string ⟨#[97, 98, 99, 100]⟩] W fun e w' => e = .returned (VV 3 2 1 1 ⟨#[97, 98, 99, 100, 32, 32]⟩) ∧ Below W.heap.size W w' := fun W => by
    have := put_any (newS 3 2) ⟨#[97, 98, 99, 100]⟩ W (newS_ok (by decide) (by decide) (by decide) (by decide)) (by decide)
    rw [show (⟨#[97, 98, 99, 100]⟩ : ByteArray).data.toList = [97, 98, 99, 100] from rfl, hpt] at this
    exact this
  have C1 := Lib.hid c1; have C2 := Lib.hid c2
  clear c1 c2 hpt
  go_enter Try.func11, Try.ntmps11
  go_wp2_with fail
  refine (C1.out _).mono ?_
  rintro e w1 ⟨rfl, HB1⟩
  have HBs1 := HB1.size
  go_wp2_with fail
  refine (C2.out _).mono ?_
  rintro e w2 ⟨rfl, hb⟩
  have HB2 := Below.thn (n := w.heap.size) (w := w) (by (repeat (first | (with_reducible assumption) | (with_reducible exact Below.refl _ _) | with_reducible apply bl_drewN | with_reducible apply Below.drew | (with_reducible apply bl_alloc; focus (first | (simp; done) | (simp; omega) | omega)) | (with_reducible apply bl_set; focus (first | (simp; done) | (simp; omega) | omega))))) hb
  have HBs2 := HB2.size
  have B2 := Blk.below (b := w1.heap.size) (t := 24) (by (repeat (first | (with_reducible assumption) | (with_reducible apply Blk.new'; (first | (with_reducible rfl) | (simp; done))) | with_reducible apply Blk.alloc | with_reducible apply Blk.set | ((with_reducible apply Blk.set_ne); focus (first | (simp; done) | (simp; omega))) | with_reducible apply Blk.drewN | with_reducible apply Blk.drew))) hb
  have B2c := B2.cell; have B2f := B2.frozen; have B2l := B2.lt
  clear hb
  go_wp2_with fail
  refine (cursor_any _ _ _ _ _ _).mono ?_
  rintro e w3 ⟨rfl, hb⟩
  have HB3 := Below.thn (n := w.heap.size) (w := w) (by (repeat (first | (with_reducible assumption) | (with_reducible exact Below.refl _ _) | with_reducible apply bl_drewN | with_reducible apply Below.drew | (with_reducible apply bl_alloc; focus (first | (simp; done) | (simp; omega) | omega)) | (with_reducible apply bl_set; focus (first | (simp; done) | (simp; omega) | omega))))) hb
  have HBs3 := HB3.size
  have B3 := Blk.below (b := w1.heap.size) (t := 24) (by (repeat (first | (with_reducible assumption) | (with_reducible apply Blk.new'; (first | (with_reducible rfl) | (simp; done))) | with_reducible apply Blk.alloc | with_reducible apply Blk.set | ((with_reducible apply Blk.set_ne); focus (first | (simp; done) | (simp; omega))) | with_reducible apply Blk.drewN | with_reducible apply Blk.drew))) hb
  clear hb B2 B2c B2f B2l
  have B3c := B3.cell
  go_wp2_with fail
  refine (cells_any _ _ _ _ _ _).mono ?_
  rintro e w4 ⟨rfl, hb⟩
  go_wp2
  go_ret
  exact ⟨rfl, Below.thn HB3 hb HBs3⟩
end Go.Proofs.Ytgdmeaoghhkknaa
