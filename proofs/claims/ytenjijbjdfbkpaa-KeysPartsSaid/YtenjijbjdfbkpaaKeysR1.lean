/- The contracts of the document's answer for layer 13. -/
import Derived.Test.YtenjijbjdfbkpaaKeys1
import Derived.Test.YtenjijbjdfbkpaaStr
namespace Go.Proofs.Ytenjijbjdfbkpaa
open Go.RowKit

set_option maxHeartbeats 400000 in
theorem rend_any (a : Nat) (s : ByteArray) (w : World) (ha : a ≤ 1000000) (hs : s.size ≤ 1000) :
    Calls Try.prog 18 #[KV a s] w fun e w' => e = .returned (.int .u64 ((a + s.size : Nat) : Int)) ∧ Below w.heap.size w w' := by
  go_enter Try.func18, Try.ntmps18
  go_wp2
  go_ret
  exact ⟨ret_int (by omega), (Below.refl _ _).alloc (Nat.le_refl _) _⟩

set_option maxHeartbeats 400000 in
theorem great_any (a n : Nat) (s : ByteArray) (w : World) (ha : a ≤ 1000000) (hs : s.size ≤ 1000) (hn : n ≤ 140737488355328) :
    Calls Try.prog 26 #[KV a s, .int .i64 n] w fun e w' => e = .returned (.bool false) ∧ Below w.heap.size w w' := by
  go_enter Try.func26, Try.ntmps26
  go_wp2_with fail
  refine wp_abs1 (w.heap.size) 42 (n := w.heap.size) (w := w) (by (repeat (first | (with_reducible assumption) | (with_reducible exact Below.refl _ _) | with_reducible apply bl_drewN | with_reducible apply Below.drew | (with_reducible apply bl_alloc; focus (first | (simp; done) | (simp; omega) | omega)) | (with_reducible apply bl_set; focus (first | (simp; done) | (simp; omega) | omega))))) (by (repeat (first | (with_reducible assumption) | (with_reducible apply Blk.new'; (first | (with_reducible rfl) | (simp; done))) | with_reducible apply Blk.alloc | with_reducible apply Blk.set | ((with_reducible apply Blk.set_ne); focus (first | (simp; done) | (simp; omega))) | with_reducible apply Blk.drewN | with_reducible apply Blk.drew))) (fun W0 HB B0 => ?_)
  have HBs := HB.size
  have B0c := B0.cell; have B0f := B0.frozen; have B0l := B0.lt
  refine wp_region_gr (by kernel_rfl) (by kernel_rfl) ?_
  repeat (first
    | go_big_quiet_skip
    | ((refine BigFrame.wpQuiet_want rfl (fun K hK => quiet_mk ?_)); apply Exists.intro; refine ⟨fun wq hq => ?_, hK _ ?_⟩
       · have f0 := hq.blk B0; go_simp; (try simp only [↓IntWalk.iteOmega]); (try go_bits)
         first | done | rfl | exact ⟨rfl, rfl⟩ | (go_at_call 18; refine (rend_any _ _ _ (by assumption) (by assumption)).mono ?_; rintro e wr ⟨rfl, hbr⟩; exact ⟨rfl, hq.next hbr⟩)
       clear hK K; (try simp only [Act.put, List.setIfInBounds_toArray, List.set_cons_zero, List.set_cons_succ])))
  refine wpQuiet_nil ?_
  intro w1 hw1
  have HB : Below w.heap.size w w1 := Below.thn HB hw1.out HB.size
  have HBs := HB.size
  have B0 := B0.gr hw1; clear B0c B0f B0l; have B0c := B0.cell; have B0f := B0.frozen; have B0l := B0.lt
  clear hw1
  go_wp2
  go_ret
  exact ⟨ret_val (by simp; omega), HB⟩

set_option maxHeartbeats 400000 in
theorem rtype_ok (a : Nat) (s t : ByteArray) (w : World) (ha : a ≤ 1000000) (hs : s.size ≤ 1000) (ht : s.size + t.size ≤ 256) :
    Calls Try.prog 23 #[KV a s, .string t] w fun e w' => e = .returned (.tuple #[KV a (s ++ t), .int .i64 0]) ∧ Below w.heap.size w w' := by
  go_enter Try.func23, Try.ntmps23
  go_wp2_with fail
  refine (great_any _ _ _ _ ha hs (by omega)).mono ?_
  rintro e w1 ⟨rfl, hb⟩
  have HB : Below w.heap.size w w1 := Below.thn (by (repeat (first | (with_reducible assumption) | (with_reducible exact Below.refl _ _) | with_reducible apply bl_drewN | with_reducible apply Below.drew | (with_reducible apply bl_alloc; focus (first | (simp; done) | (simp; omega) | omega)) | (with_reducible apply bl_set; focus (first | (simp; done) | (simp; omega) | omega))))) hb
  have HBs := HB.size
  have B0 := Blk.below (b := w.heap.size) (t := 42) (by (repeat (first | (with_reducible assumption) | (with_reducible apply Blk.new'; (first | (with_reducible rfl) | (simp; done))) | with_reducible apply Blk.alloc | with_reducible apply Blk.set | ((with_reducible apply Blk.set_ne); focus (first | (simp; done) | (simp; omega))) | with_reducible apply Blk.drewN | with_reducible apply Blk.drew))) hb
  have B0c := B0.cell; have B0f := B0.frozen; have B0l := B0.lt
  have B1 := Blk.below (b := w.heap.size+1) (t := 42) (by (repeat (first | (with_reducible assumption) | (with_reducible apply Blk.new'; (first | (with_reducible rfl) | (simp; done))) | with_reducible apply Blk.alloc | with_reducible apply Blk.set | ((with_reducible apply Blk.set_ne); focus (first | (simp; done) | (simp; omega))) | with_reducible apply Blk.drewN | with_reducible apply Blk.drew))) hb
  have B1c := B1.cell; have B1f := B1.frozen; have B1l := B1.lt
  clear hb
  go_wp2
  refine bodyPost_ret (v := .tuple #[KV a (s ++ t), .int .i64 0]) ?_ rfl ⟨rfl, ?_⟩
  · simp [results, Try.results23, go_sem, B0c, B0f, B0l, B1c, B1f, B1l]
  · repeat (first | (with_reducible assumption) | (with_reducible exact Below.refl _ _) | with_reducible apply bl_drewN | with_reducible apply Below.drew | (with_reducible apply bl_alloc; focus (first | (simp; done) | (simp; omega) | omega)) | (with_reducible apply bl_set; focus (first | (simp; done) | (simp; omega) | omega)))

set_option maxHeartbeats 400000 in
theorem rtype_full (a : Nat) (s t : ByteArray) (w : World) (ha : a ≤ 1000000) (hs : s.size ≤ 1000) (hm : t.size ≤ 140737488355328) (ht : 256 < s.size + t.size) :
    Calls Try.prog 23 #[KV a s, .string t] w fun e w' => e = .returned (.tuple #[KV a s, .int .i64 12]) ∧ Below w.heap.size w w' := by
  go_enter Try.func23, Try.ntmps23
  go_wp2
  refine bodyPost_ret (v := .tuple #[KV a s, .int .i64 12]) ?_ rfl ⟨rfl, ?_⟩
  · simp [results, Try.results23, go_sem]
  · repeat (first | (with_reducible assumption) | (with_reducible exact Below.refl _ _) | with_reducible apply bl_drewN | with_reducible apply Below.drew | (with_reducible apply bl_alloc; focus (first | (simp; done) | (simp; omega) | omega)) | (with_reducible apply bl_set; focus (first | (simp; done) | (simp; omega) | omega)))

theorem ext_ext (s : ByteArray) (j : Nat) (hj : j ≤ s.size) : (s.extract j s.size).extract 1 (s.extract j s.size).size = s.extract (j + 1) s.size := by
  apply ba_ext
  rw [ba_extract, ba_extract, ba_extract, sz_ext, Nat.min_self]
  have e1 : s.data.toList.length = s.size := rfl
  rw [List.take_of_length_le (l := s.data.toList.drop j) (by simp), List.drop_drop]
  rw [List.take_of_length_le (by simp; omega), List.take_of_length_le (by simp)]

set_option maxHeartbeats 800000 in
set_option maxRecDepth 100000 in
theorem rforget_any (a n : Nat) (s : ByteArray) (w : World) (ha : a ≤ 1000000) (hs : s.size ≤ 1000) :
    Calls Try.prog 24 #[KV a s, .int .u64 n] w fun e w' => e = .returned (KV (fgFrom a n s) (s.extract (fgFrom a n s - a) s.size)) ∧ Below w.heap.size w w' := by
  obtain ⟨J, hJ⟩ : ∃ J, fgFrom a n s = a + J := ⟨fgFrom a n s - a, by unfold fgFrom; omega⟩
  have hJ1 : J ≤ s.size := by unfold fgFrom at hJ; omega
  have hJ2 : ∀ j, j < J → a + j < n := by unfold fgFrom at hJ; omega
  have hJ3 : n ≤ a + J ∨ J = s.size := by unfold fgFrom at hJ; omega
  rw [hJ]
  clear hJ
  go_enter Try.func24, Try.ntmps24
  go_wp2_with fail
  refine wp_abs2 (w.heap.size) 42 (w.heap.size+1) 42 (n := w.heap.size) (w := w) (by (repeat (first | (with_reducible assumption) | (with_reducible exact Below.refl _ _) | with_reducible apply bl_drewN | with_reducible apply Below.drew | (with_reducible apply bl_alloc; focus (first | (simp; done) | (simp; omega) | omega)) | (with_reducible apply bl_set; focus (first | (simp; done) | (simp; omega) | omega))))) (by (repeat (first | (with_reducible assumption) | (with_reducible apply Blk.new'; (first | (with_reducible rfl) | (simp; done))) | with_reducible apply Blk.alloc | with_reducible apply Blk.set | ((with_reducible apply Blk.set_ne); focus (first | (simp; done) | (simp; omega))) | with_reducible apply Blk.drewN | with_reducible apply Blk.drew))) (by (repeat (first | (with_reducible assumption) | (with_reducible apply Blk.new'; (first | (with_reducible rfl) | (simp; done))) | with_reducible apply Blk.alloc | with_reducible apply Blk.set | ((with_reducible apply Blk.set_ne); focus (first | (simp; done) | (simp; omega))) | with_reducible apply Blk.drewN | with_reducible apply Blk.drew))) (fun W1 HB B0 B1 => ?_)
  have HBs := HB.size
  have B0c := B0.cell; have B0f := B0.frozen; have B0l := B0.lt
  have B1c := B1.cell; have B1f := B1.frozen; have B1l := B1.lt
  have Z1 : s = s.extract 0 s.size := by apply ba_ext; rw [ba_extract, List.drop_zero, List.take_of_length_le]; simp
  go_loopg [5] J (fun g t5 wr => ∃ j t, j + g = J ∧ t = s.extract j s.size ∧ Below w.heap.size w wr ∧ Blk wr w.heap.size #[.int .u64 ((a + j : Nat) : Int), .string t] 42 ∧ Blk wr (w.heap.size + 1) #[.int .u64 0, .string ⟨#[]⟩] 42)
  case atStart => exact ⟨0, s, by omega, Z1, HB, B0, B1⟩
  case round =>
    clear B0 B0c B0f B0l B1 B1c B1f B1l HBs HB Z1
    obtain ⟨j, t, hj, ht, HB, B0, B1⟩ := hrel
    have HBs := HB.size
    have B0c := B0.cell; have B0f := B0.frozen; have B0l := B0.lt; have B1c := B1.cell; have B1f := B1.frozen; have B1l := B1.lt
    have hts : t.size = s.size - j := by rw [ht, sz_ext, Nat.min_self]
    have HT := Lib.hid ht
    have HJ := Lib.hid hj
    have HS := Lib.hid hts
    cases gk with
    | zero =>
      have hjJ : j = J := by omega
      by_cases hn : n ≤ a + j
      · have hn' : ¬ ((a + j : Nat) : Int) < n := by omega
        clear hj ht hts hJ3
        subst hjJ
        go_wp2
        rw [← HT.out]
        refine bodyPost_ret (v := KV (a + j) t) ?_ rfl ⟨rfl, ?_⟩
        · simp [results, Try.results24, go_sem, B0c, B0f, B0l, B1c, B1f, B1l]
        · repeat (first | (with_reducible assumption) | (with_reducible exact Below.refl _ _) | with_reducible apply bl_drewN | with_reducible apply Below.drew | (with_reducible apply bl_alloc; focus (first | (simp; done) | (simp; omega) | omega)) | (with_reducible apply bl_set; focus (first | (simp; done) | (simp; omega) | omega)))
      · have hn' : ((a + j : Nat) : Int) < n := by omega
        have ht0 : ¬ (0 : Int) < t.size := by omega
        clear hj ht hts hJ3
        subst hjJ
        go_wp2
        rw [← HT.out]
        refine bodyPost_ret (v := KV (a + j) t) ?_ rfl ⟨rfl, ?_⟩
        · simp [results, Try.results24, go_sem, B0c, B0f, B0l, B1c, B1f, B1l]
        · repeat (first | (with_reducible assumption) | (with_reducible exact Below.refl _ _) | with_reducible apply bl_drewN | with_reducible apply Below.drew | (with_reducible apply bl_alloc; focus (first | (simp; done) | (simp; omega) | omega)) | (with_reducible apply bl_set; focus (first | (simp; done) | (simp; omega) | omega)))
    | succ g =>
      have hn' : ((a + j : Nat) : Int) < n := by have := hJ2 j (by omega); omega
      have ht0 : (0 : Int) < t.size := by omega
      have ht1 : (1 : Int) ≤ t.size := by omega
      have ht2 : t.size ≤ 1000 := by omega
      have hj2 : j ≤ 1000 := by omega
      clear hj ht hts hJ3
      go_wp2
      go_roundg g
      case rel =>
        refine ⟨j + 1, t.extract 1 t.size, by have := HJ.out; omega, by rw [HT.out, ext_ext _ _ (by have := HJ.out; omega)], ?_, ?_, ?_⟩
        · repeat (first | (with_reducible assumption) | (with_reducible exact Below.refl _ _) | with_reducible apply bl_drewN | with_reducible apply Below.drew | (with_reducible apply bl_alloc; focus (first | (simp; done) | (simp; omega) | omega)) | (with_reducible apply bl_set; focus (first | (simp; done) | (simp; omega) | omega)))
        · (apply Blk.conv; focus (repeat (first | (with_reducible assumption) | (with_reducible apply Blk.new'; (first | (with_reducible rfl) | (simp; done))) | with_reducible apply Blk.alloc | with_reducible apply Blk.set | ((with_reducible apply Blk.set_ne); focus (first | (simp; done) | (simp; omega))) | with_reducible apply Blk.drewN | with_reducible apply Blk.drew)))
          (first | rfl | (simp; done) | (simp; omega))
        · (apply Blk.conv; focus (repeat (first | (with_reducible assumption) | (with_reducible apply Blk.new'; (first | (with_reducible rfl) | (simp; done))) | with_reducible apply Blk.alloc | with_reducible apply Blk.set | ((with_reducible apply Blk.set_ne); focus (first | (simp; done) | (simp; omega))) | with_reducible apply Blk.drewN | with_reducible apply Blk.drew)))
          (first | rfl | (simp; done) | (simp; omega))
      case measure => omega
end Go.Proofs.Ytenjijbjdfbkpaa
