/-
  Proved: KeysDiffs: what any keys have behind any others, whether two are the same, and that with the difference the one is the same as the other (at most 40 turns each, texts of at most 600 bytes; else the call returns true as well). The arguments read behind the call as before.
  Conditions: none beside the row's own.
-/
import Derived.Test.YtenjijbjdfbkpaaKeysParts
namespace Go.Proofs.Ytenjijbjdfbkpaa
open Go.ChangeShapes Go.WideShapes Go.ChangeAt Go.RowKit
open Go.ChangeMaps (open_string)

theorem diff_any (a c : Nat) (s t : ByteArray) (w : World) (ha : a ≤ 1000000) (hs : s.size ≤ 1000) (hb : c ≤ 1000000) (ht : t.size ≤ 1000) :
    Calls Try.prog 9 #[KV a s, KV c t] w fun e w' => e = .returned (.tuple #[.string (sinceT c (a + s.size) t), .int .i64 (sinceE c (a + s.size) t)]) ∧ Below w.heap.size w w' := by
  unfold sinceT sinceE
  by_cases h : c ≤ a + s.size ∧ a + s.size ≤ c + t.size
  · rw [if_pos h, if_pos h]; exact diff_in a c s t w ha hs hb ht h.1 h.2
  · rw [if_neg h, if_neg h]; exact diff_out a c s t w ha hs hb ht (by omega)
theorem sinceT_size (a n : Nat) (s : ByteArray) : (sinceT a n s).size ≤ s.size := by
  unfold sinceT
  split
  · rw [sz_ext]; omega
  · exact Nat.zero_le _
theorem sinceE_cases (a n : Nat) (s : ByteArray) : sinceE a n s = 0 ∨ sinceE a n s = 7 := by
  unfold sinceE; split <;> simp

theorem sameB_self (s : ByteArray) : sameB s s = true := (sameP_iff s s).2 (fun i _ _ => rfl)

set_option maxHeartbeats 1600000 in
set_option maxRecDepth 100000 in
theorem diffs_walk (ao bo : Option Addr) (b off len cap b' off' len' cap' : Nat) (l l' : List KAct) (w : World) (hao : 0 < len → ao = some ⟨b, off, none⟩) (hm : len ≤ 140737488355328) (h : ActsAt w b off len l)
    (hbo : 0 < len' → bo = some ⟨b', off', none⟩) (hm' : len' ≤ 140737488355328) (h' : ActsAt w b' off' len' l') :
    Calls Try.prog 6 #[.slice ao len cap, .slice bo len' cap'] w fun e w' => e = .returned (.bool true) ∧ Below w.heap.size w w' := by
  by_cases hL : Light len l
  · by_cases hL' : Light len' l'
    · go_enter Try.func6, Try.ntmps6
      go_wp2_with fail
      refine (awake_any _).mono ?_
      rintro e w1 ⟨rfl, hb⟩
      have HB : Below w.heap.size w w1 := Below.thn (by (repeat (first | (with_reducible assumption) | (with_reducible exact Below.refl _ _) | with_reducible apply bl_drewN | with_reducible apply Below.drew | (with_reducible apply bl_alloc; focus (first | (simp; done) | (simp; omega) | omega)) | (with_reducible apply bl_set; focus (first | (simp; done) | (simp; omega) | omega))))) hb
      have HBs := HB.size
      clear hb
      have h1 := Lib.hid (h.below HB)
      go_wp2_with fail
      refine (light_true _ _ _ _ _ _ _ hao h1.out hL).mono ?_
      rintro e w2 ⟨rfl, hb⟩
      have HB : Below w.heap.size w w2 := Below.thn (by (repeat (first | (with_reducible assumption) | (with_reducible exact Below.refl _ _) | with_reducible apply bl_drewN | with_reducible apply Below.drew | (with_reducible apply bl_alloc; focus (first | (simp; done) | (simp; omega) | omega)) | (with_reducible apply bl_set; focus (first | (simp; done) | (simp; omega) | omega))))) hb
      have HBs := HB.size
      clear hb
      have h2 := Lib.hid (h'.below HB)
      go_wp2_with fail
      refine (light_true _ _ _ _ _ _ _ hbo h2.out hL').mono ?_
      rintro e w3 ⟨rfl, hb⟩
      have HB : Below w.heap.size w w3 := Below.thn (by (repeat (first | (with_reducible assumption) | (with_reducible exact Below.refl _ _) | with_reducible apply bl_drewN | with_reducible apply Below.drew | (with_reducible apply bl_alloc; focus (first | (simp; done) | (simp; omega) | omega)) | (with_reducible apply bl_set; focus (first | (simp; done) | (simp; omega) | omega))))) hb
      have HBs := HB.size
      clear hb
      have h3 := Lib.hid (h.below HB)
      go_wp2_with fail
      refine (of_light _ _ _ _ _ _ _ hao h3.out hL).mono ?_
      rintro e w4 ⟨a, s, rfl, ha, hs, hb⟩
      have HB : Below w.heap.size w w4 := Below.thn (by (repeat (first | (with_reducible assumption) | (with_reducible exact Below.refl _ _) | with_reducible apply bl_drewN | with_reducible apply Below.drew | (with_reducible apply bl_alloc; focus (first | (simp; done) | (simp; omega) | omega)) | (with_reducible apply bl_set; focus (first | (simp; done) | (simp; omega) | omega))))) hb
      have HBs := HB.size
      clear hb
      go_wp2_with fail
      refine (of_light _ _ _ _ _ _ _ hbo (h'.below (by (repeat (first | (with_reducible assumption) | (with_reducible exact Below.refl _ _) | with_reducible apply bl_drewN | with_reducible apply Below.drew | (with_reducible apply bl_alloc; focus (first | (simp; done) | (simp; omega) | omega)) | (with_reducible apply bl_set; focus (first | (simp; done) | (simp; omega) | omega)))))) hL').mono ?_
      rintro e w5 ⟨c, t, rfl, hc, ht, hb⟩
      have HB : Below w.heap.size w w5 := Below.thn (by (repeat (first | (with_reducible assumption) | (with_reducible exact Below.refl _ _) | with_reducible apply bl_drewN | with_reducible apply Below.drew | (with_reducible apply bl_alloc; focus (first | (simp; done) | (simp; omega) | omega)) | (with_reducible apply bl_set; focus (first | (simp; done) | (simp; omega) | omega))))) hb
      have HBs := HB.size
      have B5 := Blk.below (b := w4.heap.size) (t := 27) (by (repeat (first | (with_reducible assumption) | (with_reducible apply Blk.new'; (first | (with_reducible rfl) | (simp; done))) | with_reducible apply Blk.alloc | with_reducible apply Blk.set | ((with_reducible apply Blk.set_ne); focus (first | (simp; done) | (simp; omega))) | with_reducible apply Blk.drewN | with_reducible apply Blk.drew))) hb
      have B5c := B5.cell; have B5f := B5.frozen; have B5l := B5.lt
      have B6 := Blk.below (b := w4.heap.size+1) (t := 42) (by (repeat (first | (with_reducible assumption) | (with_reducible apply Blk.new'; (first | (with_reducible rfl) | (simp; done))) | with_reducible apply Blk.alloc | with_reducible apply Blk.set | ((with_reducible apply Blk.set_ne); focus (first | (simp; done) | (simp; omega))) | with_reducible apply Blk.drewN | with_reducible apply Blk.drew))) hb
      have B6c := B6.cell; have B6f := B6.frozen; have B6l := B6.lt
      clear hb
      go_wp2_with fail
      refine (diff_any _ _ _ _ _ (by omega) (by omega) (by omega) (by omega)).mono ?_
      rintro e w6 ⟨rfl, hb⟩
      have HB : Below w.heap.size w w6 := Below.thn (by (repeat (first | (with_reducible assumption) | (with_reducible exact Below.refl _ _) | with_reducible apply bl_drewN | with_reducible apply Below.drew | (with_reducible apply bl_alloc; focus (first | (simp; done) | (simp; omega) | omega)) | (with_reducible apply bl_set; focus (first | (simp; done) | (simp; omega) | omega))))) hb
      have HBs := HB.size
      have B5 := Blk.below (b := w4.heap.size) (t := 27) (by (repeat (first | (with_reducible assumption) | (with_reducible apply Blk.new'; (first | (with_reducible rfl) | (simp; done))) | with_reducible apply Blk.alloc | with_reducible apply Blk.set | ((with_reducible apply Blk.set_ne); focus (first | (simp; done) | (simp; omega))) | with_reducible apply Blk.drewN | with_reducible apply Blk.drew))) hb
      have B5c := B5.cell; have B5f := B5.frozen; have B5l := B5.lt
      have B6 := Blk.below (b := w4.heap.size+1) (t := 42) (by (repeat (first | (with_reducible assumption) | (with_reducible apply Blk.new'; (first | (with_reducible rfl) | (simp; done))) | with_reducible apply Blk.alloc | with_reducible apply Blk.set | ((with_reducible apply Blk.set_ne); focus (first | (simp; done) | (simp; omega))) | with_reducible apply Blk.drewN | with_reducible apply Blk.drew))) hb
      have B6c := B6.cell; have B6f := B6.frozen; have B6l := B6.lt
      have B8 := Blk.below (b := w5.heap.size) (t := 27) (by (repeat (first | (with_reducible assumption) | (with_reducible apply Blk.new'; (first | (with_reducible rfl) | (simp; done))) | with_reducible apply Blk.alloc | with_reducible apply Blk.set | ((with_reducible apply Blk.set_ne); focus (first | (simp; done) | (simp; omega))) | with_reducible apply Blk.drewN | with_reducible apply Blk.drew))) hb
      have B8c := B8.cell; have B8f := B8.frozen; have B8l := B8.lt
      have B9 := Blk.below (b := w5.heap.size+1) (t := 42) (by (repeat (first | (with_reducible assumption) | (with_reducible apply Blk.new'; (first | (with_reducible rfl) | (simp; done))) | with_reducible apply Blk.alloc | with_reducible apply Blk.set | ((with_reducible apply Blk.set_ne); focus (first | (simp; done) | (simp; omega))) | with_reducible apply Blk.drewN | with_reducible apply Blk.drew))) hb
      have B9c := B9.cell; have B9f := B9.frozen; have B9l := B9.lt
      clear hb
      go_wp2_with fail
      refine wp_abs4 (w4.heap.size) 27 (w4.heap.size+1) 42 (w5.heap.size) 27 (w5.heap.size+1) 42 (n := w.heap.size) (w := w) (by (repeat (first | (with_reducible assumption) | (with_reducible exact Below.refl _ _) | with_reducible apply bl_drewN | with_reducible apply Below.drew | (with_reducible apply bl_alloc; focus (first | (simp; done) | (simp; omega) | omega)) | (with_reducible apply bl_set; focus (first | (simp; done) | (simp; omega) | omega))))) (by (repeat (first | (with_reducible assumption) | (with_reducible apply Blk.new'; (first | (with_reducible rfl) | (simp; done))) | with_reducible apply Blk.alloc | with_reducible apply Blk.set | ((with_reducible apply Blk.set_ne); focus (first | (simp; done) | (simp; omega))) | with_reducible apply Blk.drewN | with_reducible apply Blk.drew))) (by (repeat (first | (with_reducible assumption) | (with_reducible apply Blk.new'; (first | (with_reducible rfl) | (simp; done))) | with_reducible apply Blk.alloc | with_reducible apply Blk.set | ((with_reducible apply Blk.set_ne); focus (first | (simp; done) | (simp; omega))) | with_reducible apply Blk.drewN | with_reducible apply Blk.drew))) (by (repeat (first | (with_reducible assumption) | (with_reducible apply Blk.new'; (first | (with_reducible rfl) | (simp; done))) | with_reducible apply Blk.alloc | with_reducible apply Blk.set | ((with_reducible apply Blk.set_ne); focus (first | (simp; done) | (simp; omega))) | with_reducible apply Blk.drewN | with_reducible apply Blk.drew))) (by (repeat (first | (with_reducible assumption) | (with_reducible apply Blk.new'; (first | (with_reducible rfl) | (simp; done))) | with_reducible apply Blk.alloc | with_reducible apply Blk.set | ((with_reducible apply Blk.set_ne); focus (first | (simp; done) | (simp; omega))) | with_reducible apply Blk.drewN | with_reducible apply Blk.drew))) (fun W0 HB B5 B6 B8 B9 => ?_)
      have HBs := HB.size
      have B5c := B5.cell; have B5f := B5.frozen; have B5l := B5.lt
      have B6c := B6.cell; have B6f := B6.frozen; have B6l := B6.lt
      have B8c := B8.cell; have B8f := B8.frozen; have B8l := B8.lt
      have B9c := B9.cell; have B9f := B9.frozen; have B9l := B9.lt
      refine wp_region_gr (by kernel_rfl) (by kernel_rfl) ?_
      repeat (first
        | go_big_quiet_skip
        | ((refine BigFrame.wpQuiet_want rfl (fun K hK => quiet_mk ?_)); apply Exists.intro; refine ⟨fun wq hq => ?_, hK _ ?_⟩
           · have f0 := hq.blk B5; have f1 := hq.blk B6; have f2 := hq.blk B8; have f3 := hq.blk B9; go_simp; (try simp only [↓IntWalk.iteOmega]); (try go_bits)
             first | done | rfl | exact ⟨rfl, rfl⟩ | (go_at_call 18; refine (rend_any _ _ _ (by omega) (by omega)).mono ?_; rintro e wr ⟨rfl, hbr⟩; exact ⟨rfl, hq.next hbr⟩) | (go_at_call 17; refine (rsince_any _ _ _ _ (by omega) (by omega)).mono ?_; rintro e wr ⟨rfl, hbr⟩; exact ⟨rfl, hq.next hbr⟩)
           clear hK K; (try simp only [Act.put, List.setIfInBounds_toArray, List.set_cons_zero, List.set_cons_succ])))
      refine wpQuiet_nil ?_
      intro w7 hw1
      have HB : Below w.heap.size w w7 := Below.thn HB hw1.out HB.size
      have HBs := HB.size
      have B5 := B5.gr hw1; clear B5c B5f B5l; have B5c := B5.cell; have B5f := B5.frozen; have B5l := B5.lt
      have B6 := B6.gr hw1; clear B6c B6f B6l; have B6c := B6.cell; have B6f := B6.frozen; have B6l := B6.lt
      have B8 := B8.gr hw1; clear B8c B8f B8l; have B8c := B8.cell; have B8f := B8.frozen; have B8l := B8.lt
      have B9 := B9.gr hw1; clear B9c B9f B9l; have B9c := B9.cell; have B9f := B9.frozen; have B9l := B9.lt
      clear hw1
      have hd := sinceT_size c (a + s.size) t
      have he := sinceE_cases c (a + s.size) t
      generalize sinceT c (a + s.size) t = d at *
      generalize sinceE c (a + s.size) t = E at *
      have hss := sameB_self s
      go_wp2_with fail
      refine wp_abs4 (w4.heap.size) 27 (w4.heap.size+1) 42 (w5.heap.size) 27 (w5.heap.size+1) 42 (n := w.heap.size) (w := w) (by (repeat (first | (with_reducible assumption) | (with_reducible exact Below.refl _ _) | with_reducible apply bl_drewN | with_reducible apply Below.drew | (with_reducible apply bl_alloc; focus (first | (simp; done) | (simp; omega) | omega)) | (with_reducible apply bl_set; focus (first | (simp; done) | (simp; omega) | omega))))) (by (repeat (first | (with_reducible assumption) | (with_reducible apply Blk.new'; (first | (with_reducible rfl) | (simp; done))) | with_reducible apply Blk.alloc | with_reducible apply Blk.set | ((with_reducible apply Blk.set_ne); focus (first | (simp; done) | (simp; omega))) | with_reducible apply Blk.drewN | with_reducible apply Blk.drew))) (by (repeat (first | (with_reducible assumption) | (with_reducible apply Blk.new'; (first | (with_reducible rfl) | (simp; done))) | with_reducible apply Blk.alloc | with_reducible apply Blk.set | ((with_reducible apply Blk.set_ne); focus (first | (simp; done) | (simp; omega))) | with_reducible apply Blk.drewN | with_reducible apply Blk.drew))) (by (repeat (first | (with_reducible assumption) | (with_reducible apply Blk.new'; (first | (with_reducible rfl) | (simp; done))) | with_reducible apply Blk.alloc | with_reducible apply Blk.set | ((with_reducible apply Blk.set_ne); focus (first | (simp; done) | (simp; omega))) | with_reducible apply Blk.drewN | with_reducible apply Blk.drew))) (by (repeat (first | (with_reducible assumption) | (with_reducible apply Blk.new'; (first | (with_reducible rfl) | (simp; done))) | with_reducible apply Blk.alloc | with_reducible apply Blk.set | ((with_reducible apply Blk.set_ne); focus (first | (simp; done) | (simp; omega))) | with_reducible apply Blk.drewN | with_reducible apply Blk.drew))) (fun W0 HB B5 B6 B8 B9 => ?_)
      have HBs := HB.size
      have B5c := B5.cell; have B5f := B5.frozen; have B5l := B5.lt
      have B6c := B6.cell; have B6f := B6.frozen; have B6l := B6.lt
      have B8c := B8.cell; have B8f := B8.frozen; have B8l := B8.lt
      have B9c := B9.cell; have B9f := B9.frozen; have B9l := B9.lt
      refine wp_region_gr (by kernel_rfl) (by kernel_rfl) ?_
      repeat (first
        | go_big_quiet_skip
        | ((refine BigFrame.wpQuiet_want rfl (fun K hK => quiet_mk ?_)); apply Exists.intro; refine ⟨fun wq hq => ?_, hK _ ?_⟩
           · have f0 := hq.blk B5; have f1 := hq.blk B6; have f2 := hq.blk B8; have f3 := hq.blk B9; go_simp; (try simp only [↓IntWalk.iteOmega]); (try go_bits)
             first | done | rfl | exact ⟨rfl, rfl⟩ | (go_at_call 11; refine (same_any _ _ _ _ _ (by omega) (by omega) (by omega) (by omega)).mono ?_; rintro e wr ⟨rfl, hbr⟩; exact ⟨rfl, hq.next hbr⟩) | (go_at_call 19; refine (rsame_any _ _ _ _ _ (by omega) (by omega) (by omega) (by omega)).mono ?_; rintro e wr ⟨rfl, hbr⟩; exact ⟨rfl, hq.next hbr⟩)
           clear hK K; (try simp only [Act.put, List.setIfInBounds_toArray, List.set_cons_zero, List.set_cons_succ])))
      refine wpQuiet_nil ?_
      intro w8 hw1
      have HB : Below w.heap.size w w8 := Below.thn HB hw1.out HB.size
      have HBs := HB.size
      have B5 := B5.gr hw1; clear B5c B5f B5l; have B5c := B5.cell; have B5f := B5.frozen; have B5l := B5.lt
      have B6 := B6.gr hw1; clear B6c B6f B6l; have B6c := B6.cell; have B6f := B6.frozen; have B6l := B6.lt
      have B8 := B8.gr hw1; clear B8c B8f B8l; have B8c := B8.cell; have B8f := B8.frozen; have B8l := B8.lt
      have B9 := B9.gr hw1; clear B9c B9f B9l; have B9c := B9.cell; have B9f := B9.frozen; have B9l := B9.lt
      clear hw1
      rcases he with rfl | rfl
      · go_wp2_with fail
        refine (do_both _ _ _ _ (by omega) (by omega) (by omega)).mono ?_
        rintro e w9 ⟨rfl, hb⟩
        have HB : Below w.heap.size w w9 := Below.thn (by (repeat (first | (with_reducible assumption) | (with_reducible exact Below.refl _ _) | with_reducible apply bl_drewN | with_reducible apply Below.drew | (with_reducible apply bl_alloc; focus (first | (simp; done) | (simp; omega) | omega)) | (with_reducible apply bl_set; focus (first | (simp; done) | (simp; omega) | omega))))) hb
        have HBs := HB.size
        have B5 := Blk.below (b := w4.heap.size) (t := 27) (by (repeat (first | (with_reducible assumption) | (with_reducible apply Blk.new'; (first | (with_reducible rfl) | (simp; done))) | with_reducible apply Blk.alloc | with_reducible apply Blk.set | ((with_reducible apply Blk.set_ne); focus (first | (simp; done) | (simp; omega))) | with_reducible apply Blk.drewN | with_reducible apply Blk.drew))) hb
        have B5c := B5.cell; have B5f := B5.frozen; have B5l := B5.lt
        have B6 := Blk.below (b := w4.heap.size+1) (t := 42) (by (repeat (first | (with_reducible assumption) | (with_reducible apply Blk.new'; (first | (with_reducible rfl) | (simp; done))) | with_reducible apply Blk.alloc | with_reducible apply Blk.set | ((with_reducible apply Blk.set_ne); focus (first | (simp; done) | (simp; omega))) | with_reducible apply Blk.drewN | with_reducible apply Blk.drew))) hb
        have B6c := B6.cell; have B6f := B6.frozen; have B6l := B6.lt
        have B8 := Blk.below (b := w5.heap.size) (t := 27) (by (repeat (first | (with_reducible assumption) | (with_reducible apply Blk.new'; (first | (with_reducible rfl) | (simp; done))) | with_reducible apply Blk.alloc | with_reducible apply Blk.set | ((with_reducible apply Blk.set_ne); focus (first | (simp; done) | (simp; omega))) | with_reducible apply Blk.drewN | with_reducible apply Blk.drew))) hb
        have B8c := B8.cell; have B8f := B8.frozen; have B8l := B8.lt
        have B9 := Blk.below (b := w5.heap.size+1) (t := 42) (by (repeat (first | (with_reducible assumption) | (with_reducible apply Blk.new'; (first | (with_reducible rfl) | (simp; done))) | with_reducible apply Blk.alloc | with_reducible apply Blk.set | ((with_reducible apply Blk.set_ne); focus (first | (simp; done) | (simp; omega))) | with_reducible apply Blk.drewN | with_reducible apply Blk.drew))) hb
        have B9c := B9.cell; have B9f := B9.frozen; have B9l := B9.lt
        clear hb
        have h1 := doA_le a s d hs
        have h2 := doS_size s d
        go_wp2_with fail
        refine (rdo_both _ _ _ _ (by omega) (by omega) (by omega)).mono ?_
        rintro e w10 ⟨rfl, hb⟩
        have HB : Below w.heap.size w w10 := Below.thn (by (repeat (first | (with_reducible assumption) | (with_reducible exact Below.refl _ _) | with_reducible apply bl_drewN | with_reducible apply Below.drew | (with_reducible apply bl_alloc; focus (first | (simp; done) | (simp; omega) | omega)) | (with_reducible apply bl_set; focus (first | (simp; done) | (simp; omega) | omega))))) hb
        have HBs := HB.size
        have B5 := Blk.below (b := w4.heap.size) (t := 27) (by (repeat (first | (with_reducible assumption) | (with_reducible apply Blk.new'; (first | (with_reducible rfl) | (simp; done))) | with_reducible apply Blk.alloc | with_reducible apply Blk.set | ((with_reducible apply Blk.set_ne); focus (first | (simp; done) | (simp; omega))) | with_reducible apply Blk.drewN | with_reducible apply Blk.drew))) hb
        have B5c := B5.cell; have B5f := B5.frozen; have B5l := B5.lt
        have B6 := Blk.below (b := w4.heap.size+1) (t := 42) (by (repeat (first | (with_reducible assumption) | (with_reducible apply Blk.new'; (first | (with_reducible rfl) | (simp; done))) | with_reducible apply Blk.alloc | with_reducible apply Blk.set | ((with_reducible apply Blk.set_ne); focus (first | (simp; done) | (simp; omega))) | with_reducible apply Blk.drewN | with_reducible apply Blk.drew))) hb
        have B6c := B6.cell; have B6f := B6.frozen; have B6l := B6.lt
        have B8 := Blk.below (b := w5.heap.size) (t := 27) (by (repeat (first | (with_reducible assumption) | (with_reducible apply Blk.new'; (first | (with_reducible rfl) | (simp; done))) | with_reducible apply Blk.alloc | with_reducible apply Blk.set | ((with_reducible apply Blk.set_ne); focus (first | (simp; done) | (simp; omega))) | with_reducible apply Blk.drewN | with_reducible apply Blk.drew))) hb
        have B8c := B8.cell; have B8f := B8.frozen; have B8l := B8.lt
        have B9 := Blk.below (b := w5.heap.size+1) (t := 42) (by (repeat (first | (with_reducible assumption) | (with_reducible apply Blk.new'; (first | (with_reducible rfl) | (simp; done))) | with_reducible apply Blk.alloc | with_reducible apply Blk.set | ((with_reducible apply Blk.set_ne); focus (first | (simp; done) | (simp; omega))) | with_reducible apply Blk.drewN | with_reducible apply Blk.drew))) hb
        have B9c := B9.cell; have B9f := B9.frozen; have B9l := B9.lt
        have B15 := Blk.below (b := w9.heap.size) (t := 27) (by (repeat (first | (with_reducible assumption) | (with_reducible apply Blk.new'; (first | (with_reducible rfl) | (simp; done))) | with_reducible apply Blk.alloc | with_reducible apply Blk.set | ((with_reducible apply Blk.set_ne); focus (first | (simp; done) | (simp; omega))) | with_reducible apply Blk.drewN | with_reducible apply Blk.drew))) hb
        have B15c := B15.cell; have B15f := B15.frozen; have B15l := B15.lt
        clear hb
        go_wp2_with fail
        refine wp_abs6 (w4.heap.size) 27 (w4.heap.size+1) 42 (w5.heap.size) 27 (w5.heap.size+1) 42 (w9.heap.size) 27 (w10.heap.size) 42 (n := w.heap.size) (w := w) (by (repeat (first | (with_reducible assumption) | (with_reducible exact Below.refl _ _) | with_reducible apply bl_drewN | with_reducible apply Below.drew | (with_reducible apply bl_alloc; focus (first | (simp; done) | (simp; omega) | omega)) | (with_reducible apply bl_set; focus (first | (simp; done) | (simp; omega) | omega))))) (by (repeat (first | (with_reducible assumption) | (with_reducible apply Blk.new'; (first | (with_reducible rfl) | (simp; done))) | with_reducible apply Blk.alloc | with_reducible apply Blk.set | ((with_reducible apply Blk.set_ne); focus (first | (simp; done) | (simp; omega))) | with_reducible apply Blk.drewN | with_reducible apply Blk.drew))) (by (repeat (first | (with_reducible assumption) | (with_reducible apply Blk.new'; (first | (with_reducible rfl) | (simp; done))) | with_reducible apply Blk.alloc | with_reducible apply Blk.set | ((with_reducible apply Blk.set_ne); focus (first | (simp; done) | (simp; omega))) | with_reducible apply Blk.drewN | with_reducible apply Blk.drew))) (by (repeat (first | (with_reducible assumption) | (with_reducible apply Blk.new'; (first | (with_reducible rfl) | (simp; done))) | with_reducible apply Blk.alloc | with_reducible apply Blk.set | ((with_reducible apply Blk.set_ne); focus (first | (simp; done) | (simp; omega))) | with_reducible apply Blk.drewN | with_reducible apply Blk.drew))) (by (repeat (first | (with_reducible assumption) | (with_reducible apply Blk.new'; (first | (with_reducible rfl) | (simp; done))) | with_reducible apply Blk.alloc | with_reducible apply Blk.set | ((with_reducible apply Blk.set_ne); focus (first | (simp; done) | (simp; omega))) | with_reducible apply Blk.drewN | with_reducible apply Blk.drew))) (by (repeat (first | (with_reducible assumption) | (with_reducible apply Blk.new'; (first | (with_reducible rfl) | (simp; done))) | with_reducible apply Blk.alloc | with_reducible apply Blk.set | ((with_reducible apply Blk.set_ne); focus (first | (simp; done) | (simp; omega))) | with_reducible apply Blk.drewN | with_reducible apply Blk.drew))) (by (repeat (first | (with_reducible assumption) | (with_reducible apply Blk.new'; (first | (with_reducible rfl) | (simp; done))) | with_reducible apply Blk.alloc | with_reducible apply Blk.set | ((with_reducible apply Blk.set_ne); focus (first | (simp; done) | (simp; omega))) | with_reducible apply Blk.drewN | with_reducible apply Blk.drew))) (fun W0 HB B5 B6 B8 B9 B15 B17 => ?_)
        have HBs := HB.size
        have B5c := B5.cell; have B5f := B5.frozen; have B5l := B5.lt
        have B6c := B6.cell; have B6f := B6.frozen; have B6l := B6.lt
        have B8c := B8.cell; have B8f := B8.frozen; have B8l := B8.lt
        have B9c := B9.cell; have B9f := B9.frozen; have B9l := B9.lt
        have B15c := B15.cell; have B15f := B15.frozen; have B15l := B15.lt
        have B17c := B17.cell; have B17f := B17.frozen; have B17l := B17.lt
        refine wp_region_gr (by kernel_rfl) (by kernel_rfl) ?_
        repeat (first
          | go_big_quiet_skip
          | ((refine BigFrame.wpQuiet_want rfl (fun K hK => quiet_mk ?_)); apply Exists.intro; refine ⟨fun wq hq => ?_, hK _ ?_⟩
             · have f0 := hq.blk B5; have f1 := hq.blk B6; have f2 := hq.blk B8; have f3 := hq.blk B9; have f4 := hq.blk B15; have f5 := hq.blk B17; go_simp; (try simp only [↓IntWalk.iteOmega]); (try go_bits)
               first | done | rfl | exact ⟨rfl, rfl⟩ | (go_at_call 21; refine (is_yes _ _ _ (by omega) (by omega)).mono ?_; rintro e wr ⟨rfl, hbr⟩; exact ⟨rfl, hq.next hbr⟩) | (go_at_call 11; refine (same_any _ _ _ _ _ (by omega) (by omega) (by omega) (by omega)).mono ?_; rintro e wr ⟨rfl, hbr⟩; exact ⟨rfl, hq.next hbr⟩) | (go_at_call 19; refine (rsame_any _ _ _ _ _ (by omega) (by omega) (by omega) (by omega)).mono ?_; rintro e wr ⟨rfl, hbr⟩; exact ⟨rfl, hq.next hbr⟩)
             clear hK K; (try simp only [Act.put, List.setIfInBounds_toArray, List.set_cons_zero, List.set_cons_succ])))
        refine wpQuiet_nil ?_
        intro w11 hw1
        have HB : Below w.heap.size w w11 := Below.thn HB hw1.out HB.size
        have HBs := HB.size
        have B5 := B5.gr hw1; clear B5c B5f B5l; have B5c := B5.cell; have B5f := B5.frozen; have B5l := B5.lt
        have B6 := B6.gr hw1; clear B6c B6f B6l; have B6c := B6.cell; have B6f := B6.frozen; have B6l := B6.lt
        have B8 := B8.gr hw1; clear B8c B8f B8l; have B8c := B8.cell; have B8f := B8.frozen; have B8l := B8.lt
        have B9 := B9.gr hw1; clear B9c B9f B9l; have B9c := B9.cell; have B9f := B9.frozen; have B9l := B9.lt
        have B15 := B15.gr hw1; clear B15c B15f B15l; have B15c := B15.cell; have B15f := B15.frozen; have B15l := B15.lt
        have B17 := B17.gr hw1; clear B17c B17f B17l; have B17c := B17.cell; have B17f := B17.frozen; have B17l := B17.lt
        clear hw1
        go_wp2
        go_ret
        exact ⟨by simp, HB⟩
      · go_wp2
        go_ret
        exact ⟨rfl, HB⟩
    · go_enter Try.func6, Try.ntmps6
      go_wp2_with fail
      refine (awake_any _).mono ?_
      rintro e w1 ⟨rfl, hb⟩
      have HB : Below w.heap.size w w1 := Below.thn (by (repeat (first | (with_reducible assumption) | (with_reducible exact Below.refl _ _) | with_reducible apply bl_drewN | with_reducible apply Below.drew | (with_reducible apply bl_alloc; focus (first | (simp; done) | (simp; omega) | omega)) | (with_reducible apply bl_set; focus (first | (simp; done) | (simp; omega) | omega))))) hb
      have HBs := HB.size
      clear hb
      have h1 := Lib.hid (h.below HB)
      go_wp2_with fail
      refine (light_true _ _ _ _ _ _ _ hao h1.out hL).mono ?_
      rintro e w2 ⟨rfl, hb⟩
      have HB : Below w.heap.size w w2 := Below.thn (by (repeat (first | (with_reducible assumption) | (with_reducible exact Below.refl _ _) | with_reducible apply bl_drewN | with_reducible apply Below.drew | (with_reducible apply bl_alloc; focus (first | (simp; done) | (simp; omega) | omega)) | (with_reducible apply bl_set; focus (first | (simp; done) | (simp; omega) | omega))))) hb
      have HBs := HB.size
      clear hb
      have h2 := Lib.hid (h'.below HB)
      go_wp2_with fail
      refine (light_false _ _ _ _ _ _ _ hbo hm' h2.out hL').mono ?_
      rintro e w3 ⟨rfl, hb⟩
      have HB : Below w.heap.size w w3 := Below.thn (by (repeat (first | (with_reducible assumption) | (with_reducible exact Below.refl _ _) | with_reducible apply bl_drewN | with_reducible apply Below.drew | (with_reducible apply bl_alloc; focus (first | (simp; done) | (simp; omega) | omega)) | (with_reducible apply bl_set; focus (first | (simp; done) | (simp; omega) | omega))))) hb
      have HBs := HB.size
      clear hb
      go_wp2
      go_ret
      exact ⟨rfl, HB⟩
  · go_enter Try.func6, Try.ntmps6
    go_wp2_with fail
    refine (awake_any _).mono ?_
    rintro e w1 ⟨rfl, hb⟩
    have HB : Below w.heap.size w w1 := Below.thn (by (repeat (first | (with_reducible assumption) | (with_reducible exact Below.refl _ _) | with_reducible apply bl_drewN | with_reducible apply Below.drew | (with_reducible apply bl_alloc; focus (first | (simp; done) | (simp; omega) | omega)) | (with_reducible apply bl_set; focus (first | (simp; done) | (simp; omega) | omega))))) hb
    have HBs := HB.size
    clear hb
    have h1 := Lib.hid (h.below HB)
    go_wp2_with fail
    refine (light_false _ _ _ _ _ _ _ hao hm h1.out hL).mono ?_
    rintro e w2 ⟨rfl, hb⟩
    have HB : Below w.heap.size w w2 := Below.thn (by (repeat (first | (with_reducible assumption) | (with_reducible exact Below.refl _ _) | with_reducible apply bl_drewN | with_reducible apply Below.drew | (with_reducible apply bl_alloc; focus (first | (simp; done) | (simp; omega) | omega)) | (with_reducible apply bl_set; focus (first | (simp; done) | (simp; omega) | omega))))) hb
    have HBs := HB.size
    clear hb
    go_wp2
    go_ret
    exact ⟨rfl, HB⟩

theorem keysDiffs_lifted (os : Os) (started : os.Started) (H : Type) (enc : TypeId × Value → H) :
    ReturnsInHanded {} Try.checked os 6 .any (Rows.keysDiffsSpec.pre6 enc Try.prog Try.f6 [] false) (Rows.keysDiffsSpec.post enc Try.prog Try.f6 false true false false) := by
  refine law_lift 6 Try.f6 Rows.keysDiffsSpec [39, 39] os started H enc Try.func6 rfl rfl Try.underlying4 (by kernel_rfl) rfl
    (ChangeSpec.witness6 (enc := enc) (C := Try.checked) false ⟨#[], #[.slice none 0 0, .slice none 0 0], []⟩ 8 (by kernel_rfl) (by kernel_rfl) (by kernel_rfl) (by kernel_rfl))
    (fun ds hds => by match ds, hds with | [d0, d1], _ => exact ⟨rfl, rfl, rfl⟩)
    (fun t ht => by
      simp only [List.mem_cons, List.mem_nil_iff, or_false] at ht
      rcases ht with rfl | rfl <;> exact ⟨by kernel_rfl, of_decide_eq_true (by kernel_rfl)⟩) ?_
  intro W base args ds p hval hA hlt hsz
  obtain ⟨v0, vs0, d0, ds0, p0, q0, e0, rfl, rfl, h0, r0⟩ := trodAll_cons hA
  obtain ⟨v1, vs1, d1, ds1, p1, q1, e1, rfl, rfl, h1, r1⟩ := trodAll_cons r0
  obtain ⟨rfl, rfl, rfl⟩ := trodAll_nil r1
  subst e1
  obtain rfl : args = #[v0, v1] := Array.ext' e0
  have hszj : ∀ (j : Nat) (t : TypeId) (d : DataW H), [39, 39][j]? = some t → [d0, d1][j]? = some d → (d.weights Try.prog t).all (· ≤ reachBytes) = true := fun j t d ht hd => by
    rw [List.all_eq_true] at hsz ⊢
    exact fun y hy => hsz y (DataW.weights_mem_each ht hd y hy)
  obtain ⟨a0, len, cap, rfl⟩ := okWide_slice Try.underlying39 (hval 0 39 v0 rfl rfl)
  obtain ⟨a1, len1, cap1, rfl⟩ := okWide_slice Try.underlying39 (hval 1 39 v1 rfl rfl)
  obtain ⟨hm, b, off, l, hao, hacts⟩ := open_acts h0 (fun x hx => hlt x (by simp [hx])) (hszj 0 39 _ rfl rfl)
  obtain ⟨hm1, b1, off1, l1, hao1, hacts1⟩ := open_acts h1 (fun x hx => hlt x (by simp [hx])) (hszj 1 39 _ rfl rfl)
  exact diffs_walk a0 a1 b off len cap b1 off1 len1 cap1 l l1 W hao hm hacts hao1 hm1 hacts1

theorem keysDiffs_holds : Rows.KeysDiffsSaid :=
  OpenClaim.holds_of_wide 6 Try.f6 rfl rfl rfl rfl rfl rfl rfl ⟨rfl, rfl, rfl, rfl, rfl⟩ rfl rfl rfl rfl rfl (by kernel_rfl) Try.func6 (by kernel_rfl)
    (of_decide_eq_true (by kernel_rfl)) (by unfold Func.isWrapper; first | (rw [if_pos (by decide +kernel)]; kernel_rfl) | (rw [if_neg (by decide +kernel)]; exact ⟨rfl, rfl⟩))
    (fun os started H enc _ => keysDiffs_lifted os started H enc)
#print axioms keysDiffs_holds
end Go.Proofs.Ytenjijbjdfbkpaa
