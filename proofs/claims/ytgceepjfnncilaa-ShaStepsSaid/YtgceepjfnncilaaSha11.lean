/- The first chapter's example; the third one's. -/
import Derived.Test.YtgceepjfnncilaaSha10
namespace Go.Proofs.Ytgceepjfnncilaa
open Go.RowKit

theorem ba_lit (l : List UInt8) (s : ByteArray) (h : s.data.toList = l) : s = ⟨l.toArray⟩ := by
  have : s.data = l.toArray := by rw [← h]
  show (⟨s.data⟩ : ByteArray) = _
  rw [this]
theorem below_drewN {n q : Nat} {w w' : World} (h : Below n w w') : Below n w (w'.drewN q) := bl_drewN h
set_option maxHeartbeats 4000000 in
set_option maxRecDepth 20000 in
theorem awake01_any (w : World) : Calls Try.prog 47 #[] w fun e w' => e = .returned (.bool true) ∧ Below w.heap.size w w' := by
  have hput : ∀ W, Calls Try.prog 40 #[.int .u64 258, .int .i64 2] W fun e w' => e = .returned (.string ⟨#[1, 2]⟩) ∧ Below W.heap.size W w' := fun W => by
    have h5 := wput_any 258 2 W (by omega) (by omega) (by omega)
    rw [show (⟨(putB 258 2).toArray⟩ : ByteArray) = ⟨#[1, 2]⟩ by kernel_rfl] at h5
    exact h5
  have HP := Lib.hid hput
  clear hput
  go_enter Try.func47, Try.ntmps47
  go_wp2_with fail
  refine (cut_any ⟨#[97, 98, 99, 100]⟩ [1, 2] w.heap.size 3 _ ((Blk.new' rfl).conv rfl) (by decide) (by decide) (by decide)).mono ?_
  rintro e W1 ⟨v, rfl, ho, hb⟩
  have HB : Below w.heap.size w W1 := Below.thn (by (repeat (first | (with_reducible assumption) | (with_reducible exact Below.refl _ _) | with_reducible apply bl_drewN | with_reducible apply Below.drew | (with_reducible apply bl_alloc; focus (first | (simp; done) | (simp; omega) | omega)) | (with_reducible apply bl_set; focus (first | (simp; done) | (simp; omega) | omega))))) hb
  have HBs := HB.size
  clear hb
  obtain ⟨g, c, rfl, hg0, hgl, hgc⟩ := own_reads ho (by decide)
  have hx : strs (cutL ⟨#[97, 98, 99, 100]⟩ [1, 2]) = strs [⟨#[97]⟩, ⟨#[98, 99]⟩, ⟨#[100]⟩] := by
    congr 1
  rw [hx] at hgc
  have HG := Lib.hid hgc
  clear hgc ho hx
  go_wp2_with fail
  refine (Try.slices_Equal_string g 0 3 c W1.heap.size 0 3 3 [⟨#[97]⟩, ⟨#[98, 99]⟩, ⟨#[100]⟩] [⟨#[97]⟩, ⟨#[98, 99]⟩, ⟨#[100]⟩] _ (by decide) (by decide) (by decide) (by decide) (fun j hj => ?_) (fun j hj => ?_)).mono ?_
  · rw [Nat.zero_add, World.cell?_of_block (Below.heap_alloc _ _ _ hgl), HG.out j hj]
    match j, hj with
    | 0, _ => rfl
    | 1, _ => rfl
    | 2, _ => rfl
  · rw [Nat.zero_add, (Blk.new W1 _ _).cell]
    match j, hj with
    | 0, _ => rfl
    | 1, _ => rfl
    | 2, _ => rfl
  rintro e W2 ⟨rfl, q, rfl⟩
  rw [decide_eq_true (show List.take 3 ([⟨#[97]⟩, ⟨#[98, 99]⟩, ⟨#[100]⟩] : List ByteArray) = List.take 3 [⟨#[97]⟩, ⟨#[98, 99]⟩, ⟨#[100]⟩] from rfl)]
  have HB2 : Below w.heap.size w (W1.alloc (Obj.cells #[Value.string { data := #[97] }, Value.string { data := #[98, 99] }, Value.string { data := #[100] }] 9) |>.drewN q) := by (repeat (first | (with_reducible assumption) | (with_reducible exact Below.refl _ _) | with_reducible apply bl_drewN | with_reducible apply Below.drew | (with_reducible apply bl_alloc; focus (first | (simp; done) | (simp; omega) | omega)) | (with_reducible apply bl_set; focus (first | (simp; done) | (simp; omega) | omega))))
  clear HG hgl hg0
  go_wp2_with fail
  refine (HP.out _).mono ?_
  rintro e W3 ⟨rfl, hb3⟩
  have HB3 := Below.thn HB2 hb3 HB2.size
  go_wp2_with fail
  go_ret
  exact ⟨rfl, HB3⟩
theorem awake01x_any (w : World) : Calls Try.prog 32 #[] w fun e w' => e = .returned (.bool true) ∧ Below w.heap.size w w' := by
  go_enter Try.func32, Try.ntmps32
  go_wp2_with fail
  refine (awake01_any w).mono ?_
  rintro e W1 ⟨rfl, hb⟩
  go_wp2_with fail
  go_ret
  exact ⟨rfl, hb⟩
theorem sumL_abc : Lib.hasPrefix (sumL [97, 98, 99]) [186, 120, 22, 191] = true := by
  have h1 : wordsL [97, 98, 99] = [0xba7816bf, 0x8f01cfea, 0x414140de, 0x5dae2223, 0xb00361a3, 0x96177a9c, 0xb410ff61, 0xf20015ad] := by
    have h2 : (wholeL [97, 98, 99]).length = 64 := by rw [whole_abc]; rfl
    unfold wordsL
    rw [h2, show 64 / 64 = 1 from rfl]
    unfold sumGo
    rw [if_neg (by rw [whole_abc]; exact List.cons_ne_nil _ _), List.take_of_length_le (by rw [h2]; exact Nat.le_refl _), sum_abc]
    rfl
  unfold sumL
  rw [h1]
  show Lib.hasPrefix (textL [0xba7816bf, 0x8f01cfea, 0x414140de, 0x5dae2223, 0xb00361a3, 0x96177a9c, 0xb410ff61, 0xf20015ad]) [186, 120, 22, 191] = true
  kernel_rfl
set_option maxHeartbeats 4000000 in
set_option maxRecDepth 20000 in
theorem awake03_any (w : World) : Calls Try.prog 11 #[] w fun e w' => e = .returned (.bool true) ∧ Below w.heap.size w w' := by
  have hpre := sumL_abc
  have hs0 := sumB_size (catB [])
  obtain ⟨e0, he0⟩ : ∃ t, sumB (catB []) = t := ⟨_, rfl⟩
  have htn := fun W => text_any (.slice none 0 0) (catB []) W (by decide) (fun W' _ => join_no W')
  rw [he0] at hs0 htn
  have HTN := Lib.hid htn
  have hta := fun b W t B => text_any (.slice (some ⟨b, 0, none⟩) 2 2) (catB [⟨#[97]⟩, ⟨#[98, 99]⟩]) W (by decide) (fun W' hb => join_row b [⟨#[97]⟩, ⟨#[98, 99]⟩] W W' t B (by decide) (by decide) hb)
  have hsl : (sumB (catB [⟨#[97]⟩, ⟨#[98, 99]⟩])).data.toList = sumL [97, 98, 99] := rfl
  obtain ⟨ea, hea⟩ : ∃ t, sumB (catB [⟨#[97]⟩, ⟨#[98, 99]⟩]) = t := ⟨_, rfl⟩
  rw [hea] at hta hsl
  rw [← hsl] at hpre
  have HTA := Lib.hid hta
  have HPRE := Lib.hid hpre
  clear hpre hta htn he0 hea hsl
  go_enter Try.func11, Try.ntmps11
  go_wp2_with fail
  refine (awake01x_any w).mono ?_
  rintro e W1 ⟨rfl, hb⟩
  have hbs := hb.size
  go_wp2_with fail
  refine (HTA.out W1.heap.size _ 9 ((Blk.new' rfl).conv rfl)).mono ?_
  rintro e W2 ⟨rfl, hb2⟩
  have HB2 : Below w.heap.size w W2 := Below.thn (by (repeat (first | (with_reducible assumption) | (with_reducible exact Below.refl _ _) | with_reducible apply bl_drewN | with_reducible apply Below.drew | (with_reducible apply bl_alloc; focus (first | (simp; done) | (simp; omega) | omega)) | (with_reducible apply bl_set; focus (first | (simp; done) | (simp; omega) | omega))))) hb2
  clear hb2
  go_wp2_with fail
  refine (Try.strings_HasPrefix ea ⟨#[186, 120, 22, 191]⟩ _).mono ?_
  rintro e W3 ⟨rfl, rfl⟩
  rw [show (⟨#[186, 120, 22, 191]⟩ : ByteArray).data.toList = [186, 120, 22, 191] from rfl, HPRE.out]
  have HB2s := HB2.size
  go_wp2_with fail
  refine (HTN.out _).mono ?_
  rintro e W4 ⟨rfl, hb4⟩
  have HB4 := Below.thn HB2 hb4 HB2s
  go_wp2_with fail
  go_ret
  exact ⟨rfl, HB4⟩
end Go.Proofs.Ytgceepjfnncilaa
