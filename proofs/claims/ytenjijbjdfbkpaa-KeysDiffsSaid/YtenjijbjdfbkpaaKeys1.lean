/- The contracts of the functions of package keys. -/
import Derived.Test.YtenjijbjdfbkpaaBase
namespace Go.Proofs.Ytenjijbjdfbkpaa
open Go.RowKit

abbrev KV (a : Nat) (s : ByteArray) : Value := .agg #[.int .u64 a, .string s]

set_option maxHeartbeats 400000 in
theorem end_any (a : Nat) (s : ByteArray) (w : World) (ha : a ≤ 1000000) (hs : s.size ≤ 1000) :
    Calls Try.prog 22 #[KV a s] w fun e w' => e = .returned (.int .u64 ((a + s.size : Nat) : Int)) ∧ Below w.heap.size w w' := by
  go_enter Try.func22, Try.ntmps22
  go_wp2
  go_ret
  exact ⟨ret_int (by omega), (Below.refl _ _).alloc (Nat.le_refl _) _⟩

set_option maxHeartbeats 400000 in
theorem ends_any (a : Nat) (s : ByteArray) (w : World) (ha : a ≤ 1000000) (hs : s.size ≤ 1000) :
    Calls Try.prog 12 #[KV a s] w fun e w' => e = .returned (.tuple #[.int .u64 a, .int .u64 ((a + s.size : Nat) : Int)]) ∧ Below w.heap.size w w' := by
  go_enter Try.func12, Try.ntmps12
  go_wp2_with fail
  have hb0 : Below w.heap.size w (w.alloc (.cells #[.int .u64 a, .string s] 27)) := (Below.refl _ _).alloc (Nat.le_refl _) _
  have B0 := Blk.new w #[.int .u64 a, .string s] 27
  generalize w.alloc (.cells #[.int .u64 a, .string s] 27) = W at *
  refine wp_region_gr (by kernel_rfl) (by kernel_rfl) ?_
  repeat (first
    | go_big_quiet_skip
    | ((refine BigFrame.wpQuiet_want rfl (fun K hK => quiet_mk ?_)); apply Exists.intro; refine ⟨fun wq hq => ?_, hK _ ?_⟩
       · have f0 := hq.blk B0; go_simp; (try simp only [↓IntWalk.iteOmega]); (try go_bits)
         first | done | rfl | exact ⟨rfl, rfl⟩ | (go_at_call 22; refine (end_any _ _ _ ha hs).mono ?_; rintro e wr ⟨rfl, hbr⟩; exact ⟨rfl, hq.next hbr⟩)
       clear hK K; (try simp only [Act.put, List.setIfInBounds_toArray, List.set_cons_zero, List.set_cons_succ])))
  refine wpQuiet_nil ?_
  intro w1 hw1
  go_wp2
  go_ret2
  exact ⟨rfl, hb0.trans (hw1.out.mono hb0.size)⟩

set_option maxHeartbeats 400000 in
theorem since_in (a n : Nat) (s : ByteArray) (w : World) (ha : a ≤ 1000000) (hs : s.size ≤ 1000) (h1 : a ≤ n) (h2 : n ≤ a + s.size) :
    Calls Try.prog 16 #[KV a s, .int .u64 n] w fun e w' => e = .returned (.tuple #[.string (s.extract (n - a) s.size), .int .i64 0]) ∧ Below w.heap.size w w' := by
  have hx : ¬ (n : Int) < a := by omega
  go_enter Try.func16, Try.ntmps16
  go_wp2_with fail
  refine (end_any _ _ _ ha hs).mono ?_
  rintro e w1 ⟨rfl, hb⟩
  have HB : Below w.heap.size w w1 := Below.thn (by (repeat (first | (with_reducible assumption) | (with_reducible exact Below.refl _ _) | with_reducible apply bl_drewN | with_reducible apply Below.drew | (with_reducible apply bl_alloc; focus (first | (simp; done) | (simp; omega) | omega)) | (with_reducible apply bl_set; focus (first | (simp; done) | (simp; omega) | omega))))) hb
  have HBs := HB.size
  have B0 := Blk.below (b := w.heap.size) (t := 27) (by (repeat (first | (with_reducible assumption) | (with_reducible apply Blk.new'; (first | (with_reducible rfl) | (simp; done))) | with_reducible apply Blk.alloc | with_reducible apply Blk.set | ((with_reducible apply Blk.set_ne); focus (first | (simp; done) | (simp; omega))) | with_reducible apply Blk.drewN | with_reducible apply Blk.drew))) hb
  have B0c := B0.cell; have B0f := B0.frozen; have B0l := B0.lt
  clear hb
  go_wp2
  go_ret2
  exact ⟨rfl, HB⟩

set_option maxHeartbeats 400000 in
theorem since_out (a n : Nat) (s : ByteArray) (w : World) (ha : a ≤ 1000000) (hs : s.size ≤ 1000) (h1 : n < a ∨ a + s.size < n) :
    Calls Try.prog 16 #[KV a s, .int .u64 n] w fun e w' => e = .returned (.tuple #[.string ⟨#[]⟩, .int .i64 7]) ∧ Below w.heap.size w w' := by
  by_cases hx : n < a
  · go_enter Try.func16, Try.ntmps16
    go_wp2
    go_ret2
    exact ⟨rfl, (Below.refl _ _).alloc (Nat.le_refl _) _⟩
  · have hx1 : ¬ (n : Int) < a := by omega
    have hx2 : (a : Int) + s.size < n := by omega
    go_enter Try.func16, Try.ntmps16
    go_wp2_with fail
    refine (end_any _ _ _ ha hs).mono ?_
    rintro e w1 ⟨rfl, hb⟩
    have HB : Below w.heap.size w w1 := Below.thn (by (repeat (first | (with_reducible assumption) | (with_reducible exact Below.refl _ _) | with_reducible apply bl_drewN | with_reducible apply Below.drew | (with_reducible apply bl_alloc; focus (first | (simp; done) | (simp; omega) | omega)) | (with_reducible apply bl_set; focus (first | (simp; done) | (simp; omega) | omega))))) hb
    have HBs := HB.size
    have B0 := Blk.below (b := w.heap.size) (t := 27) (by (repeat (first | (with_reducible assumption) | (with_reducible apply Blk.new'; (first | (with_reducible rfl) | (simp; done))) | with_reducible apply Blk.alloc | with_reducible apply Blk.set | ((with_reducible apply Blk.set_ne); focus (first | (simp; done) | (simp; omega))) | with_reducible apply Blk.drewN | with_reducible apply Blk.drew))) hb
    have B0c := B0.cell; have B0f := B0.frozen; have B0l := B0.lt
    clear hb
    go_wp2
    go_ret2
    exact ⟨rfl, HB⟩

set_option maxHeartbeats 400000 in
theorem type_ok (a : Nat) (s t : ByteArray) (w : World) (ha : a ≤ 1000000) (hs : s.size ≤ 1000) (ht : s.size + t.size ≤ 256) :
    Calls Try.prog 8 #[KV a s, .string t] w fun e w' => e = .returned (.tuple #[KV a (s ++ t), .int .i64 0]) ∧ Below w.heap.size w w' := by
  go_enter Try.func8, Try.ntmps8
  go_wp2_with fail
  refine (end_any _ _ _ ha hs).mono ?_
  rintro e w1 ⟨rfl, hb⟩
  have HB : Below w.heap.size w w1 := Below.thn (by (repeat (first | (with_reducible assumption) | (with_reducible exact Below.refl _ _) | with_reducible apply bl_drewN | with_reducible apply Below.drew | (with_reducible apply bl_alloc; focus (first | (simp; done) | (simp; omega) | omega)) | (with_reducible apply bl_set; focus (first | (simp; done) | (simp; omega) | omega))))) hb
  have HBs := HB.size
  have B0 := Blk.below (b := w.heap.size) (t := 27) (by (repeat (first | (with_reducible assumption) | (with_reducible apply Blk.new'; (first | (with_reducible rfl) | (simp; done))) | with_reducible apply Blk.alloc | with_reducible apply Blk.set | ((with_reducible apply Blk.set_ne); focus (first | (simp; done) | (simp; omega))) | with_reducible apply Blk.drewN | with_reducible apply Blk.drew))) hb
  have B0c := B0.cell; have B0f := B0.frozen; have B0l := B0.lt
  have B1 := Blk.below (b := w.heap.size+1) (t := 27) (by (repeat (first | (with_reducible assumption) | (with_reducible apply Blk.new'; (first | (with_reducible rfl) | (simp; done))) | with_reducible apply Blk.alloc | with_reducible apply Blk.set | ((with_reducible apply Blk.set_ne); focus (first | (simp; done) | (simp; omega))) | with_reducible apply Blk.drewN | with_reducible apply Blk.drew))) hb
  have B1c := B1.cell; have B1f := B1.frozen; have B1l := B1.lt
  clear hb
  go_wp2
  refine bodyPost_ret (v := .tuple #[KV a (s ++ t), .int .i64 0]) ?_ rfl ⟨rfl, ?_⟩
  · simp [results, Try.results8, go_sem, B0c, B0f, B0l, B1c, B1f, B1l]
  · repeat (first | (with_reducible assumption) | (with_reducible exact Below.refl _ _) | with_reducible apply bl_drewN | with_reducible apply Below.drew | (with_reducible apply bl_alloc; focus (first | (simp; done) | (simp; omega) | omega)) | (with_reducible apply bl_set; focus (first | (simp; done) | (simp; omega) | omega)))

set_option maxHeartbeats 400000 in
theorem type_full (a : Nat) (s t : ByteArray) (w : World) (ha : a ≤ 1000000) (hs : s.size ≤ 1000) (hm : t.size ≤ 140737488355328) (ht : 256 < s.size + t.size) :
    Calls Try.prog 8 #[KV a s, .string t] w fun e w' => e = .returned (.tuple #[KV a s, .int .i64 12]) ∧ Below w.heap.size w w' := by
  go_enter Try.func8, Try.ntmps8
  go_wp2
  refine bodyPost_ret (v := .tuple #[KV a s, .int .i64 12]) ?_ rfl ⟨rfl, ?_⟩
  · simp [results, Try.results8, go_sem]
  · repeat (first | (with_reducible assumption) | (with_reducible exact Below.refl _ _) | with_reducible apply bl_drewN | with_reducible apply Below.drew | (with_reducible apply bl_alloc; focus (first | (simp; done) | (simp; omega) | omega)) | (with_reducible apply bl_set; focus (first | (simp; done) | (simp; omega) | omega)))

def fgFrom (a n : Nat) (s : ByteArray) : Nat := max a (min n (a + s.size))
theorem ext_size (s : ByteArray) (b c : Nat) (h : c ≤ b) : s.extract b c = ByteArray.empty := by
  apply ByteArray.ext
  simp [ByteArray.data_extract]
  omega
set_option maxHeartbeats 400000 in
theorem forget_any (a n : Nat) (s : ByteArray) (w : World) (ha : a ≤ 1000000) (hs : s.size ≤ 1000) :
    Calls Try.prog 13 #[KV a s, .int .u64 n] w fun e w' => e = .returned (KV (fgFrom a n s) (s.extract (fgFrom a n s - a) s.size)) ∧ Below w.heap.size w w' := by
  by_cases hx : a < n
  · by_cases hn : a + s.size < n
    · have hm : fgFrom a n s = a + s.size := by unfold fgFrom; omega
      have e1 : (a : Int) + s.size - a = (s.size : Int) := by omega
      rw [hm]
      clear hm
      go_enter Try.func13, Try.ntmps13
      go_wp2_with fail
      refine wp_abs2 (w.heap.size) 27 (w.heap.size+1) 27 (n := w.heap.size) (w := w) (by (repeat (first | (with_reducible assumption) | (with_reducible exact Below.refl _ _) | with_reducible apply bl_drewN | with_reducible apply Below.drew | (with_reducible apply bl_alloc; focus (first | (simp; done) | (simp; omega) | omega)) | (with_reducible apply bl_set; focus (first | (simp; done) | (simp; omega) | omega))))) (by (repeat (first | (with_reducible assumption) | (with_reducible apply Blk.new'; (first | (with_reducible rfl) | (simp; done))) | with_reducible apply Blk.alloc | with_reducible apply Blk.set | ((with_reducible apply Blk.set_ne); focus (first | (simp; done) | (simp; omega))) | with_reducible apply Blk.drewN | with_reducible apply Blk.drew))) (by (repeat (first | (with_reducible assumption) | (with_reducible apply Blk.new'; (first | (with_reducible rfl) | (simp; done))) | with_reducible apply Blk.alloc | with_reducible apply Blk.set | ((with_reducible apply Blk.set_ne); focus (first | (simp; done) | (simp; omega))) | with_reducible apply Blk.drewN | with_reducible apply Blk.drew))) (fun W0 HB B0 B1 => ?_)
      have HBs := HB.size
      have B0c := B0.cell; have B0f := B0.frozen; have B0l := B0.lt
      have B1c := B1.cell; have B1f := B1.frozen; have B1l := B1.lt
      refine wp_region_gr (by kernel_rfl) (by kernel_rfl) ?_
      repeat (first
        | go_big_quiet_skip
        | ((refine BigFrame.wpQuiet_want rfl (fun K hK => quiet_mk ?_)); apply Exists.intro; refine ⟨fun wq hq => ?_, hK _ ?_⟩
           · have f0 := hq.blk B0; have f1 := hq.blk B1; go_simp; (try simp only [↓IntWalk.iteOmega]); (try go_bits)
             first | done | rfl | exact ⟨rfl, rfl⟩ | (go_at_call 22; refine (end_any _ _ _ ha hs).mono ?_; rintro e wr ⟨rfl, hbr⟩; exact ⟨rfl, hq.next hbr⟩)
           clear hK K; (try simp only [Act.put, List.setIfInBounds_toArray, List.set_cons_zero, List.set_cons_succ])))
      refine wpQuiet_nil ?_
      intro w1 hw1
      have HB : Below w.heap.size w w1 := Below.thn HB hw1.out HB.size
      have HBs := HB.size
      have B0 := B0.gr hw1; clear B0c B0f B0l; have B0c := B0.cell; have B0f := B0.frozen; have B0l := B0.lt
      have B1 := B1.gr hw1; clear B1c B1f B1l; have B1c := B1.cell; have B1f := B1.frozen; have B1l := B1.lt
      clear hw1
      go_wp2_with fail
      go_region
      go_wp2
      have e2 : KV (a + s.size) (s.extract (a + s.size - a) s.size) = .agg #[.int .u64 ((a : Int) + s.size), .string ByteArray.empty] := by
        rw [ext_size _ _ _ (by omega)]; rfl
      rw [e2]
      refine bodyPost_ret (v := .agg #[.int .u64 ((a : Int) + s.size), .string ByteArray.empty]) ?_ rfl ⟨rfl, ?_⟩
      · simp [results, Try.results13, go_sem, B0c, B0f, B0l, B1c, B1f, B1l]
      · repeat (first | (with_reducible assumption) | (with_reducible exact Below.refl _ _) | with_reducible apply bl_drewN | with_reducible apply Below.drew | (with_reducible apply bl_alloc; focus (first | (simp; done) | (simp; omega) | omega)) | (with_reducible apply bl_set; focus (first | (simp; done) | (simp; omega) | omega)))
    · obtain ⟨m, rfl⟩ : ∃ m, n = a + m := ⟨n - a, by omega⟩
      have hm : fgFrom a (a + m) s = a + m := by unfold fgFrom; omega
      have e1 : ((a + m : Nat) : Int) - a = (m : Int) := by omega
      have e1' : (a : Int) + m - a = (m : Int) := by omega
      have hm1 : m ≤ s.size := by omega
      have hx' : (a : Int) < ((a + m : Nat) : Int) := by omega
      have hn' : ¬ ((a : Int) + s.size < ((a + m : Nat) : Int)) := by omega
      rw [hm]
      clear hm
      go_enter Try.func13, Try.ntmps13
      go_wp2_with fail
      refine wp_abs2 (w.heap.size) 27 (w.heap.size+1) 27 (n := w.heap.size) (w := w) (by (repeat (first | (with_reducible assumption) | (with_reducible exact Below.refl _ _) | with_reducible apply bl_drewN | with_reducible apply Below.drew | (with_reducible apply bl_alloc; focus (first | (simp; done) | (simp; omega) | omega)) | (with_reducible apply bl_set; focus (first | (simp; done) | (simp; omega) | omega))))) (by (repeat (first | (with_reducible assumption) | (with_reducible apply Blk.new'; (first | (with_reducible rfl) | (simp; done))) | with_reducible apply Blk.alloc | with_reducible apply Blk.set | ((with_reducible apply Blk.set_ne); focus (first | (simp; done) | (simp; omega))) | with_reducible apply Blk.drewN | with_reducible apply Blk.drew))) (by (repeat (first | (with_reducible assumption) | (with_reducible apply Blk.new'; (first | (with_reducible rfl) | (simp; done))) | with_reducible apply Blk.alloc | with_reducible apply Blk.set | ((with_reducible apply Blk.set_ne); focus (first | (simp; done) | (simp; omega))) | with_reducible apply Blk.drewN | with_reducible apply Blk.drew))) (fun W0 HB B0 B1 => ?_)
      have HBs := HB.size
      have B0c := B0.cell; have B0f := B0.frozen; have B0l := B0.lt
      have B1c := B1.cell; have B1f := B1.frozen; have B1l := B1.lt
      refine wp_region_gr (by kernel_rfl) (by kernel_rfl) ?_
      repeat (first
        | go_big_quiet_skip
        | ((refine BigFrame.wpQuiet_want rfl (fun K hK => quiet_mk ?_)); apply Exists.intro; refine ⟨fun wq hq => ?_, hK _ ?_⟩
           · have f0 := hq.blk B0; have f1 := hq.blk B1; go_simp; (try simp only [↓IntWalk.iteOmega]); (try go_bits)
             first | done | rfl | exact ⟨rfl, rfl⟩ | (go_at_call 22; refine (end_any _ _ _ ha hs).mono ?_; rintro e wr ⟨rfl, hbr⟩; exact ⟨rfl, hq.next hbr⟩)
           clear hK K; (try simp only [Act.put, List.setIfInBounds_toArray, List.set_cons_zero, List.set_cons_succ])))
      refine wpQuiet_nil ?_
      intro w1 hw1
      have HB : Below w.heap.size w w1 := Below.thn HB hw1.out HB.size
      have HBs := HB.size
      have B0 := B0.gr hw1; clear B0c B0f B0l; have B0c := B0.cell; have B0f := B0.frozen; have B0l := B0.lt
      have B1 := B1.gr hw1; clear B1c B1f B1l; have B1c := B1.cell; have B1f := B1.frozen; have B1l := B1.lt
      clear hw1
      go_wp2_with fail
      go_region
      go_wp2
      have e2 : KV (a + m) (s.extract (a + m - a) s.size) = .agg #[.int .u64 ((a : Int) + m), .string (s.extract m s.size)] := by
        rw [show a + m - a = m from by omega]; rfl
      rw [e2]
      refine bodyPost_ret (v := .agg #[.int .u64 ((a : Int) + m), .string (s.extract m s.size)]) ?_ rfl ⟨rfl, ?_⟩
      · simp [results, Try.results13, go_sem, B0c, B0f, B0l, B1c, B1f, B1l]
      · repeat (first | (with_reducible assumption) | (with_reducible exact Below.refl _ _) | with_reducible apply bl_drewN | with_reducible apply Below.drew | (with_reducible apply bl_alloc; focus (first | (simp; done) | (simp; omega) | omega)) | (with_reducible apply bl_set; focus (first | (simp; done) | (simp; omega) | omega)))
  · go_enter Try.func13, Try.ntmps13
    go_wp2
    have e1 : fgFrom a n s = a := by unfold fgFrom; omega
    rw [e1]
    refine bodyPost_ret (v := KV a (s.extract (a - a) s.size)) ?_ rfl ⟨rfl, ?_⟩
    · simp [results, Try.results13, go_sem]
    · repeat (first | (with_reducible assumption) | (with_reducible exact Below.refl _ _) | with_reducible apply bl_drewN | with_reducible apply Below.drew | (with_reducible apply bl_alloc; focus (first | (simp; done) | (simp; omega) | omega)) | (with_reducible apply bl_set; focus (first | (simp; done) | (simp; omega) | omega)))

set_option maxHeartbeats 400000 in
theorem diff_in (a b : Nat) (s t : ByteArray) (w : World) (ha : a ≤ 1000000) (hs : s.size ≤ 1000) (hb : b ≤ 1000000) (ht : t.size ≤ 1000) (h1 : b ≤ a + s.size) (h2 : a + s.size ≤ b + t.size) :
    Calls Try.prog 9 #[KV a s, KV b t] w fun e w' => e = .returned (.tuple #[.string (t.extract (a + s.size - b) t.size), .int .i64 0]) ∧ Below w.heap.size w w' := by
  go_enter Try.func9, Try.ntmps9
  go_wp2_with fail
  refine wp_abs2 (w.heap.size) 27 (w.heap.size+1) 27 (n := w.heap.size) (w := w) (by (repeat (first | (with_reducible assumption) | (with_reducible exact Below.refl _ _) | with_reducible apply bl_drewN | with_reducible apply Below.drew | (with_reducible apply bl_alloc; focus (first | (simp; done) | (simp; omega) | omega)) | (with_reducible apply bl_set; focus (first | (simp; done) | (simp; omega) | omega))))) (by (repeat (first | (with_reducible assumption) | (with_reducible apply Blk.new'; (first | (with_reducible rfl) | (simp; done))) | with_reducible apply Blk.alloc | with_reducible apply Blk.set | ((with_reducible apply Blk.set_ne); focus (first | (simp; done) | (simp; omega))) | with_reducible apply Blk.drewN | with_reducible apply Blk.drew))) (by (repeat (first | (with_reducible assumption) | (with_reducible apply Blk.new'; (first | (with_reducible rfl) | (simp; done))) | with_reducible apply Blk.alloc | with_reducible apply Blk.set | ((with_reducible apply Blk.set_ne); focus (first | (simp; done) | (simp; omega))) | with_reducible apply Blk.drewN | with_reducible apply Blk.drew))) (fun W0 HB B0 B1 => ?_)
  have HBs := HB.size
  have B0c := B0.cell; have B0f := B0.frozen; have B0l := B0.lt
  have B1c := B1.cell; have B1f := B1.frozen; have B1l := B1.lt
  refine wp_region_gr (by kernel_rfl) (by kernel_rfl) ?_
  repeat (first
    | go_big_quiet_skip
    | ((refine BigFrame.wpQuiet_want rfl (fun K hK => quiet_mk ?_)); apply Exists.intro; refine ⟨fun wq hq => ?_, hK _ ?_⟩
       · have f0 := hq.blk B0; have f1 := hq.blk B1; go_simp; (try simp only [↓IntWalk.iteOmega]); (try go_bits)
         first | done | rfl | exact ⟨rfl, rfl⟩ | (go_at_call 22; refine (end_any _ _ _ ha hs).mono ?_; rintro e wr ⟨rfl, hbr⟩; exact ⟨rfl, hq.next hbr⟩) | (go_at_call 16; refine (since_in b (a + s.size) t _ hb ht h1 h2).mono ?_; rintro e wr ⟨rfl, hbr⟩; exact ⟨rfl, hq.next hbr⟩)
       clear hK K; (try simp only [Act.put, List.setIfInBounds_toArray, List.set_cons_zero, List.set_cons_succ])))
  refine wpQuiet_nil ?_
  intro w1 hw1
  have HB : Below w.heap.size w w1 := Below.thn HB hw1.out HB.size
  have HBs := HB.size
  have B0 := B0.gr hw1; clear B0c B0f B0l; have B0c := B0.cell; have B0f := B0.frozen; have B0l := B0.lt
  have B1 := B1.gr hw1; clear B1c B1f B1l; have B1c := B1.cell; have B1f := B1.frozen; have B1l := B1.lt
  clear hw1
  go_wp2
  go_ret2
  exact ⟨rfl, HB⟩
set_option maxHeartbeats 400000 in
theorem diff_out (a b : Nat) (s t : ByteArray) (w : World) (ha : a ≤ 1000000) (hs : s.size ≤ 1000) (hb : b ≤ 1000000) (ht : t.size ≤ 1000) (h1 : a + s.size < b ∨ b + t.size < a + s.size) :
    Calls Try.prog 9 #[KV a s, KV b t] w fun e w' => e = .returned (.tuple #[.string ⟨#[]⟩, .int .i64 7]) ∧ Below w.heap.size w w' := by
  go_enter Try.func9, Try.ntmps9
  go_wp2_with fail
  refine wp_abs2 (w.heap.size) 27 (w.heap.size+1) 27 (n := w.heap.size) (w := w) (by (repeat (first | (with_reducible assumption) | (with_reducible exact Below.refl _ _) | with_reducible apply bl_drewN | with_reducible apply Below.drew | (with_reducible apply bl_alloc; focus (first | (simp; done) | (simp; omega) | omega)) | (with_reducible apply bl_set; focus (first | (simp; done) | (simp; omega) | omega))))) (by (repeat (first | (with_reducible assumption) | (with_reducible apply Blk.new'; (first | (with_reducible rfl) | (simp; done))) | with_reducible apply Blk.alloc | with_reducible apply Blk.set | ((with_reducible apply Blk.set_ne); focus (first | (simp; done) | (simp; omega))) | with_reducible apply Blk.drewN | with_reducible apply Blk.drew))) (by (repeat (first | (with_reducible assumption) | (with_reducible apply Blk.new'; (first | (with_reducible rfl) | (simp; done))) | with_reducible apply Blk.alloc | with_reducible apply Blk.set | ((with_reducible apply Blk.set_ne); focus (first | (simp; done) | (simp; omega))) | with_reducible apply Blk.drewN | with_reducible apply Blk.drew))) (fun W0 HB B0 B1 => ?_)
  have HBs := HB.size
  have B0c := B0.cell; have B0f := B0.frozen; have B0l := B0.lt
  have B1c := B1.cell; have B1f := B1.frozen; have B1l := B1.lt
  refine wp_region_gr (by kernel_rfl) (by kernel_rfl) ?_
  repeat (first
    | go_big_quiet_skip
    | ((refine BigFrame.wpQuiet_want rfl (fun K hK => quiet_mk ?_)); apply Exists.intro; refine ⟨fun wq hq => ?_, hK _ ?_⟩
       · have f0 := hq.blk B0; have f1 := hq.blk B1; go_simp; (try simp only [↓IntWalk.iteOmega]); (try go_bits)
         first | done | rfl | exact ⟨rfl, rfl⟩ | (go_at_call 22; refine (end_any _ _ _ ha hs).mono ?_; rintro e wr ⟨rfl, hbr⟩; exact ⟨rfl, hq.next hbr⟩) | (go_at_call 16; refine (since_out b (a + s.size) t _ hb ht h1).mono ?_; rintro e wr ⟨rfl, hbr⟩; exact ⟨rfl, hq.next hbr⟩)
       clear hK K; (try simp only [Act.put, List.setIfInBounds_toArray, List.set_cons_zero, List.set_cons_succ])))
  refine wpQuiet_nil ?_
  intro w1 hw1
  have HB : Below w.heap.size w w1 := Below.thn HB hw1.out HB.size
  have HBs := HB.size
  have B0 := B0.gr hw1; clear B0c B0f B0l; have B0c := B0.cell; have B0f := B0.frozen; have B0l := B0.lt
  have B1 := B1.gr hw1; clear B1c B1f B1l; have B1c := B1.cell; have B1f := B1.frozen; have B1l := B1.lt
  clear hw1
  go_wp2
  go_ret2
  exact ⟨rfl, HB⟩

def doCut (s d : ByteArray) : Nat := s.size + d.size - 256
end Go.Proofs.Ytenjijbjdfbkpaa
