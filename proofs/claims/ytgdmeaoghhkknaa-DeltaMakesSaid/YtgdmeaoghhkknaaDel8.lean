/- Package delta: what is awake. -/
import Derived.Test.YtgdmeaoghhkknaaDel7
namespace Go.Proofs.Ytgdmeaoghhkknaa
open Go.RowKit

theorem enc_awake : ofL (newS 3 2) ⟨3, 2, 1, 0, [97, 32, 32, 32, 32, 32]⟩ = [100, 1, 0, 0, 0, 1, 97] := by
  have e0 : encR 0 0 [32, 32, 32] [97, 32, 32] 3 = [0, 0, 1, 97] := by
    rw [encR_run 0 0 _ _ 2 1 rfl (by decide)]
    rw [show 2 - 1 = 0 + 1 from rfl, encR_same 0 (0 + 1 + 1) _ _ 0 rfl, encR_zero]
    rfl
  have e1 : encR 1 0 [32, 32, 32] [32, 32, 32] 3 = [] := by
    rw [encR_same 1 0 _ _ 2 rfl, encR_same 1 (0 + 1) _ _ 1 rfl, encR_same 1 (0 + 1 + 1) _ _ 0 rfl, encR_zero]
  unfold ofL
  rw [if_neg (by decide)]
  show [100, UInt8.ofNat 1, UInt8.ofNat 0] ++ (encR 0 0 [32, 32, 32] [97, 32, 32] 3 ++ (encR 1 0 [32, 32, 32] [32, 32, 32] 3 ++ [])) = _
  rw [e0, e1]
  rfl
theorem cnt_self : ∀ (l : List UInt8), cnt l l = 0
  | [] => rfl
  | x :: l => by rw [cnt, if_pos rfl, cnt_self l]
theorem enc_same : ofL (newS 3 2) (newS 3 2) = [100, 0, 0] := by
  have h := encF_len 3 2 (newS 3 2).b (newS 3 2).b rfl rfl 2 0 rfl
  rw [cnt_self] at h
  unfold ofL
  rw [if_neg (by decide)]
  show [100, UInt8.ofNat 0, UInt8.ofNat 0] ++ encF 3 (newS 3 2).b (newS 3 2).b 0 2 = _
  rw [List.eq_nil_of_length_eq_zero (Nat.le_zero.1 h.2)]
  rfl
set_option maxHeartbeats 4000000 in
set_option maxRecDepth 20000 in
theorem awake40 (w : World) : Calls Try.prog 40 #[] w fun e w' => e = .returned (.bool true) ∧ Below w.heap.size w w' := by
  go_enter Try.func40, Try.ntmps40
  go_wp2_with fail
  refine (awake11 _).mono ?_
  rintro e w1 ⟨rfl, hb⟩
  go_wp2_with fail
  go_ret
  exact ⟨rfl, hb⟩
set_option maxHeartbeats 8000000 in
set_option maxRecDepth 20000 in
theorem awake12 (w : World) : Calls Try.prog 25 #[] w fun e w' => e = .returned (.bool true) ∧ Below w.heap.size w w' := by
  have hpt : putL (newS 3 2) [97] = ⟨3, 2, 1, 0, [97, 32, 32, 32, 32, 32]⟩ := rfl
  have hok := newS_ok (w := 3) (h := 2) (by decide) (by decide) (by decide) (by decide)
  have hokt : Scr.Ok ⟨3, 2, 1, 0, [97, 32, 32, 32, 32, 32]⟩ := by rw [← hpt]; exact putL_ok hok _
  obtain ⟨bl, hbl⟩ : ∃ b, txt [32, 32, 32, 32, 32, 32] = b := ⟨_, rfl⟩
  obtain ⟨al, hal⟩ : ∃ b, txt [97, 32, 32, 32, 32, 32] = b := ⟨_, rfl⟩
  have c1 : ∀ W, Calls Try.prog 12 #[.int .i64 3, .int .i64 2] W fun e w' => e = .returned (.tuple #[VV 3 2 0 0 bl, .int .i64 0]) ∧ Below W.heap.size W w' := fun W => by
    rw [← hbl]; exact new_any 3 2 W (by decide) (by decide) (by decide) (by decide)
  have c2 : ∀ W, Calls Try.prog 14 #[VV 3 2 0 0 bl, .string ⟨#[97]⟩] W fun e w' => e = .returned (VV 3 2 1 0 al) ∧ Below W.heap.size W w' := fun W => by
    rw [← hbl, ← hal]; exact put_vv (newS 3 2) ⟨#[97]⟩ W hok (by show 1 ≤ 100000; omega) _ hpt
  have c3 : ∀ W, Calls Try.prog 27 #[VV 3 2 0 0 bl, VV 3 2 0 0 bl] W fun e w' => e = .returned (.string ⟨#[100, 0, 0]⟩) ∧ Below W.heap.size W w' := fun W => by
    have h5 := of_any (newS 3 2) (newS 3 2) W hok hok
    rw [enc_same] at h5
    rw [← hbl]; exact h5
  have c4 : ∀ W, Calls Try.prog 27 #[VV 3 2 0 0 bl, VV 3 2 1 0 al] W fun e w' => e = .returned (.string ⟨#[100, 1, 0, 0, 0, 1, 97]⟩) ∧ Below W.heap.size W w' := fun W => by
    have h5 := of_any (newS 3 2) ⟨3, 2, 1, 0, [97, 32, 32, 32, 32, 32]⟩ W hok hokt
    rw [enc_awake] at h5
    rw [← hbl, ← hal]; exact h5
  have c5 : ∀ W, Calls Try.prog 29 #[.string ⟨#[100, 0, 0]⟩] W fun e w' => e = .returned (.bool true) ∧ Below W.heap.size W w' := fun W => by
    have h5 := empty_any ⟨#[100, 0, 0]⟩ W
    rw [decide_eq_true (by exact ⟨rfl, rfl⟩)] at h5
    exact h5
  have C1 := Lib.hid c1; have C2 := Lib.hid c2; have C3 := Lib.hid c3; have C4 := Lib.hid c4; have C5 := Lib.hid c5
  clear c1 c2 c3 c4 c5 hpt hok hokt hbl hal
  go_enter Try.func25, Try.ntmps25
  go_wp2_with fail
  refine (C1.out _).mono ?_
  rintro e W1 ⟨rfl, hb1⟩
  have hbs1 := hb1.size
  go_wp2_with fail
  refine (C2.out _).mono ?_
  rintro e W2 ⟨rfl, hb⟩
  have HB2 : Below w.heap.size w W2 := Below.thn (by (repeat (first | (with_reducible assumption) | (with_reducible exact Below.refl _ _) | with_reducible apply bl_drewN | with_reducible apply Below.drew | (with_reducible apply bl_alloc; focus (first | (simp; done) | (simp; omega) | omega)) | (with_reducible apply bl_set; focus (first | (simp; done) | (simp; omega) | omega))))) hb
  have S2 := Blk.below (b := W1.heap.size) (t := 24) (by (repeat (first | (with_reducible assumption) | (with_reducible apply Blk.new'; (first | (with_reducible rfl) | (simp; done))) | with_reducible apply Blk.alloc | with_reducible apply Blk.set | ((with_reducible apply Blk.set_ne); focus (first | (simp; done) | (simp; omega))) | with_reducible apply Blk.drewN | with_reducible apply Blk.drew))) hb
  have HB2s := HB2.size
  clear hb
  go_upto_region 3 with fail
  refine wp_absQ (fun W => Below w.heap.size w W ∧ Blk W W1.heap.size #[.int .i64 3, .int .i64 2, .int .i64 0, .int .i64 0, .string bl] 24 ∧ Blk W W2.heap.size #[.int .i64 3, .int .i64 2, .int .i64 1, .int .i64 0, .string al] 24) ⟨by (repeat (first | (with_reducible assumption) | (with_reducible exact Below.refl _ _) | with_reducible apply bl_drewN | with_reducible apply Below.drew | (with_reducible apply bl_alloc; focus (first | (simp; done) | (simp; omega) | omega)) | (with_reducible apply bl_set; focus (first | (simp; done) | (simp; omega) | omega)))), by (repeat (first | (with_reducible assumption) | (with_reducible apply Blk.new'; (first | (with_reducible rfl) | (simp; done))) | with_reducible apply Blk.alloc | with_reducible apply Blk.set | ((with_reducible apply Blk.set_ne); focus (first | (simp; done) | (simp; omega))) | with_reducible apply Blk.drewN | with_reducible apply Blk.drew)), by (repeat (first | (with_reducible assumption) | (with_reducible apply Blk.new'; (first | (with_reducible rfl) | (simp; done))) | with_reducible apply Blk.alloc | with_reducible apply Blk.set | ((with_reducible apply Blk.set_ne); focus (first | (simp; done) | (simp; omega))) | with_reducible apply Blk.drewN | with_reducible apply Blk.drew))⟩ (fun W3 h5 => ?_)
  obtain ⟨HB3, S3, T3⟩ := h5
  have HB3s := HB3.size
  clear HB2 HB2s S2
  go_wp2_with fail
  refine (awake40 _).mono ?_
  rintro e W4 ⟨rfl, hb⟩
  have HB4 := Below.thn HB3 hb HB3s
  have S4 := S3.below hb
  have T4 := T3.below hb
  have HB4s := HB4.size
  have S4c := S4.cell; have S4l := S4.lt
  clear hb HB3 HB3s S3 T3
  go_wp2_with fail
  refine (C3.out _).mono ?_
  rintro e W5 ⟨rfl, hb⟩
  have HB5 := Below.thn HB4 hb HB4s
  have S5 := S4.below hb
  have T5 := T4.below hb
  have HB5s := HB5.size
  clear hb HB4 HB4s S4 T4 S4c S4l
  go_wp2_with fail
  refine (C5.out _).mono ?_
  rintro e W6 ⟨rfl, hb⟩
  have HB6 := Below.thn HB5 hb HB5s
  have S6 := S5.below hb
  have T6 := T5.below hb
  have HB6s := HB6.size
  clear hb HB5 HB5s S5 T5
  have S6c := S6.cell; have S6l := S6.lt; have T6c := T6.cell; have T6l := T6.lt
  go_wp2_with fail
  refine (C4.out _).mono ?_
  rintro e W7 ⟨rfl, hb⟩
  have HB7 := Below.thn HB6 hb HB6s
  go_wp2_with fail
  go_ret
  exact ⟨rfl, HB7⟩
end Go.Proofs.Ytgdmeaoghhkknaa
