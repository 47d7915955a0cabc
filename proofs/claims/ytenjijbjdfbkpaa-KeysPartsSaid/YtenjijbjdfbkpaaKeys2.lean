/- The contracts of Do and Same of package keys. -/
import Derived.Test.YtenjijbjdfbkpaaKeys1
namespace Go.Proofs.Ytenjijbjdfbkpaa
open Go.RowKit

theorem ext_all (s d : ByteArray) (n : Nat) (h : s.size + d.size = n) : (s ++ d).extract 0 n = s ++ d := by
  apply ByteArray.ext
  have h1 : (s ++ d).data.size = n := by rw [← h]; exact ByteArray.size_append
  rw [ByteArray.data_extract, ← h1, Array.extract_size]

set_option maxHeartbeats 400000 in
theorem do_fits (a : Nat) (s d : ByteArray) (w : World) (ha : a ≤ 900000) (hs : s.size ≤ 1000) (hx : s.size + d.size ≤ 256) :
    Calls Try.prog 10 #[KV a s, .string d] w fun e w' => e = .returned (.tuple #[KV a (s ++ d), .int .i64 0]) ∧ Below w.heap.size w w' := by
  have ha1 : a ≤ 1000000 := by omega
  have HX := ext_all s d (s.size + d.size) rfl
  go_enter Try.func10, Try.ntmps10
  go_wp2_with fail
  refine (end_any _ _ _ ha1 hs).mono ?_
  rintro e w1 ⟨rfl, hb⟩
  have HB : Below w.heap.size w w1 := Below.thn (by (repeat (first | (with_reducible assumption) | (with_reducible exact Below.refl _ _) | with_reducible apply bl_drewN | with_reducible apply Below.drew | (with_reducible apply bl_alloc; focus (first | (simp; done) | (simp; omega) | omega)) | (with_reducible apply bl_set; focus (first | (simp; done) | (simp; omega) | omega))))) hb
  have HBs := HB.size
  have B0 := Blk.below (b := w.heap.size) (t := 27) (by (repeat (first | (with_reducible assumption) | (with_reducible apply Blk.new'; (first | (with_reducible rfl) | (simp; done))) | with_reducible apply Blk.alloc | with_reducible apply Blk.set | ((with_reducible apply Blk.set_ne); focus (first | (simp; done) | (simp; omega))) | with_reducible apply Blk.drewN | with_reducible apply Blk.drew))) hb
  have B0c := B0.cell; have B0f := B0.frozen; have B0l := B0.lt
  have B1 := Blk.below (b := w.heap.size+1) (t := 27) (by (repeat (first | (with_reducible assumption) | (with_reducible apply Blk.new'; (first | (with_reducible rfl) | (simp; done))) | with_reducible apply Blk.alloc | with_reducible apply Blk.set | ((with_reducible apply Blk.set_ne); focus (first | (simp; done) | (simp; omega))) | with_reducible apply Blk.drewN | with_reducible apply Blk.drew))) hb
  have B1c := B1.cell; have B1f := B1.frozen; have B1l := B1.lt
  clear hb
  by_cases hz : s.size + d.size = 256
  · have hz0 : ¬ (0 : Int) < (s.size : Int) + d.size - 256 := by omega
    have hz1 : (s.size : Int) + d.size - 256 = 0 := by omega
    have HY := ext_all s d 256 hz
    go_wp2_with fail
    go_region
    go_wp2
    refine bodyPost_ret (v := .tuple #[KV a (s ++ d), .int .i64 0]) ?_ rfl ⟨rfl, ?_⟩
    · simp [results, Try.results10, go_sem, B0c, B0f, B0l, B1c, B1f, B1l]
    · repeat (first | (with_reducible assumption) | (with_reducible exact Below.refl _ _) | with_reducible apply bl_drewN | with_reducible apply Below.drew | (with_reducible apply bl_alloc; focus (first | (simp; done) | (simp; omega) | omega)) | (with_reducible apply bl_set; focus (first | (simp; done) | (simp; omega) | omega)))
  · have hz1 : (s.size : Int) + d.size - 256 < 0 := by omega
    go_wp2_with fail
    go_region
    go_wp2
    refine bodyPost_ret (v := .tuple #[KV a (s ++ d), .int .i64 0]) ?_ rfl ⟨rfl, ?_⟩
    · simp [results, Try.results10, go_sem, B0c, B0f, B0l, B1c, B1f, B1l]
    · repeat (first | (with_reducible assumption) | (with_reducible exact Below.refl _ _) | with_reducible apply bl_drewN | with_reducible apply Below.drew | (with_reducible apply bl_alloc; focus (first | (simp; done) | (simp; omega) | omega)) | (with_reducible apply bl_set; focus (first | (simp; done) | (simp; omega) | omega)))

set_option maxHeartbeats 400000 in
theorem do_cut (a c : Nat) (s d : ByteArray) (w : World) (ha : a ≤ 900000) (hs : s.size ≤ 1000) (hd : d.size ≤ 1000) (hx : s.size + d.size = 256 + c) (hc : 0 < c) :
    Calls Try.prog 10 #[KV a s, .string d] w fun e w' => e = .returned (.tuple #[.agg #[.int .u64 ((a : Int) + c), .string ((s ++ d).extract c (s.size + d.size))], .int .i64 0]) ∧ Below w.heap.size w w' := by
  have ha1 : a ≤ 1000000 := by omega
  have e0 : (s.size : Int) + d.size - 256 = c := by omega
  have HX : Hid (s.size + d.size = 256 + c) := hx
  have hc2 : c ≤ 2000 := by omega
  have hc3 : c ≤ s.size + d.size := by omega
  clear hx
  go_enter Try.func10, Try.ntmps10
  go_wp2_with fail
  refine (end_any _ _ _ ha1 hs).mono ?_
  rintro e w1 ⟨rfl, hb⟩
  have HB : Below w.heap.size w w1 := Below.thn (by (repeat (first | (with_reducible assumption) | (with_reducible exact Below.refl _ _) | with_reducible apply bl_drewN | with_reducible apply Below.drew | (with_reducible apply bl_alloc; focus (first | (simp; done) | (simp; omega) | omega)) | (with_reducible apply bl_set; focus (first | (simp; done) | (simp; omega) | omega))))) hb
  have HBs := HB.size
  have B0 := Blk.below (b := w.heap.size) (t := 27) (by (repeat (first | (with_reducible assumption) | (with_reducible apply Blk.new'; (first | (with_reducible rfl) | (simp; done))) | with_reducible apply Blk.alloc | with_reducible apply Blk.set | ((with_reducible apply Blk.set_ne); focus (first | (simp; done) | (simp; omega))) | with_reducible apply Blk.drewN | with_reducible apply Blk.drew))) hb
  have B0c := B0.cell; have B0f := B0.frozen; have B0l := B0.lt
  have B1 := Blk.below (b := w.heap.size+1) (t := 27) (by (repeat (first | (with_reducible assumption) | (with_reducible apply Blk.new'; (first | (with_reducible rfl) | (simp; done))) | with_reducible apply Blk.alloc | with_reducible apply Blk.set | ((with_reducible apply Blk.set_ne); focus (first | (simp; done) | (simp; omega))) | with_reducible apply Blk.drewN | with_reducible apply Blk.drew))) hb
  have B1c := B1.cell; have B1f := B1.frozen; have B1l := B1.lt
  clear hb
  go_wp2_with fail
  go_region
  go_wp2
  refine bodyPost_ret (v := .tuple #[.agg #[.int .u64 ((a : Int) + c), .string ((s ++ d).extract c (s.size + d.size))], .int .i64 0]) ?_ rfl ⟨rfl, ?_⟩
  · simp [results, Try.results10, go_sem, B0c, B0f, B0l, B1c, B1f, B1l]
  · repeat (first | (with_reducible assumption) | (with_reducible exact Below.refl _ _) | with_reducible apply bl_drewN | with_reducible apply Below.drew | (with_reducible apply bl_alloc; focus (first | (simp; done) | (simp; omega) | omega)) | (with_reducible apply bl_set; focus (first | (simp; done) | (simp; omega) | omega)))
end Go.Proofs.Ytenjijbjdfbkpaa
