/- Package sha: Step. -/
import Derived.Test.YtgceepjfnncilaaSumsW
namespace Go.Proofs.Ytgceepjfnncilaa
open Go.RowKit

theorem words_all (H : List Nat) : (nums .u32 H).toArray.all (·.oneCell') = true := all_oneCell_toArray (fun v hv => by
  obtain ⟨n, _, rfl⟩ := List.mem_map.1 hv; rfl)
set_option maxHeartbeats 4000000 in
set_option maxRecDepth 20000 in
theorem stepx_any (H : List Nat) (hH : Words H) (s : ByteArray) (w : World) (hs : s.size = 64) :
    Calls Try.prog 24 #[.agg (nums .u32 H).toArray, .string s] w fun e w' => e = .returned (.tuple #[.agg (nums .u32 (stepL H s.data.toList)).toArray, .int .i64 0]) ∧ Below w.heap.size w w' := by
  obtain ⟨h0, h1, h2, h3, h4, h5, h6, h7, rfl, hl⟩ := words_form hH
  show Calls Try.prog 24 #[.agg (c35 h0 h1 h2 h3 h4 h5 h6 h7), .string s] w _
  have hs64 : (s.size : Int) = 64 := by omega
  have hst := fun kb W B => step_list [h0, h1, h2, h3, h4, h5, h6, h7] hH kb s W hs B
  have hw2 := step_words [h0, h1, h2, h3, h4, h5, h6, h7] s.data.toList
  obtain ⟨H2, hH2⟩ : ∃ K, stepL [h0, h1, h2, h3, h4, h5, h6, h7] s.data.toList = K := ⟨_, rfl⟩
  rw [hH2] at hst hw2 ⊢
  have HST := Lib.hid hst
  clear hst hH2 hH
  have hks : (nums .u32 constK).toArray.size = 64 := by kernel_rfl
  have hK1 : (nums .u32 constK).toArray.all (·.oneCell') = true := by kernel_rfl
  go_enter Try.func24, Try.ntmps24
  go_wp2_with fail
  refine (keys_any _).mono ?_
  rintro e W1 ⟨rfl, hb⟩
  have HB1 : Below w.heap.size w W1 := Below.thn (by (repeat (first | (with_reducible assumption) | (with_reducible exact Below.refl _ _) | with_reducible apply bl_drewN | with_reducible apply Below.drew | (with_reducible apply bl_alloc; focus (first | (simp; done) | (simp; omega) | omega)) | (with_reducible apply bl_set; focus (first | (simp; done) | (simp; omega) | omega))))) hb
  have HB1s := HB1.size
  have B0 : Blk W1 w.heap.size (c35 h0 h1 h2 h3 h4 h5 h6 h7) 35 := Blk.below (by (repeat (first | (with_reducible assumption) | (with_reducible apply Blk.new'; (first | (with_reducible rfl) | (simp; done))) | with_reducible apply Blk.alloc | with_reducible apply Blk.set | ((with_reducible apply Blk.set_ne); focus (first | (simp; done) | (simp; omega))) | with_reducible apply Blk.drewN | with_reducible apply Blk.drew))) hb
  have B1 : Blk W1 (w.heap.size + 1) z35 35 := Blk.below (by (repeat (first | (with_reducible assumption) | (with_reducible apply Blk.new'; (first | (with_reducible rfl) | (simp; done))) | with_reducible apply Blk.alloc | with_reducible apply Blk.set | ((with_reducible apply Blk.set_ne); focus (first | (simp; done) | (simp; omega))) | with_reducible apply Blk.drewN | with_reducible apply Blk.drew))) hb
  have hl1 := B1.lt
  clear hb
  obtain ⟨KK, hKK⟩ : ∃ K, (nums .u32 constK).toArray = K := ⟨_, rfl⟩
  rw [hKK] at hks hK1 ⊢
  go_upto_region 4 with (refine wpList_put rfl 36 _ _ rfl W1.heap.size _ _ 36 rfl rfl (by (repeat (first | (with_reducible assumption) | (with_reducible apply Blk.new'; (first | (with_reducible rfl) | (simp; done))) | with_reducible apply Blk.alloc | with_reducible apply Blk.set | ((with_reducible apply Blk.set_ne); focus (first | (simp; done) | (simp; omega))) | with_reducible apply Blk.drewN | with_reducible apply Blk.drew))) (by rw [hks]; kernel_rfl) (hks.trans rfl) hK1 (fun W9 hp9 B9 => ?_))
  have HB9 : Below w.heap.size w W9 := hp9.below (by omega) (by (repeat (first | (with_reducible assumption) | (with_reducible exact Below.refl _ _) | with_reducible apply bl_drewN | with_reducible apply Below.drew | (with_reducible apply bl_alloc; focus (first | (simp; done) | (simp; omega) | omega)) | (with_reducible apply bl_set; focus (first | (simp; done) | (simp; omega) | omega)))))
  have C0 : Blk W9 w.heap.size (c35 h0 h1 h2 h3 h4 h5 h6 h7) 35 := hp9.blk (by omega) (Blk.alloc B0)
  have C1 : Blk W9 (w.heap.size + 1) z35 35 := hp9.blk (by omega) (Blk.alloc B1)
  rw [← hKK] at B9
  clear hp9 B0 B1 HB1 hks hK1 hKK
  have hWs := HB9.size
  have C0c := C0.cell; have C0l := C0.lt
  go_wp2_with fail
  refine (HST.out W1.heap.size W9 B9).mono ?_
  rintro e W2 ⟨rfl, hb2⟩
  have HB2 := Below.thn HB9 hb2 hWs
  have D1 := C1.below hb2
  clear hb2 C0 C1 C0c C0l B9 HB9
  have hs8 : (nums .u32 H2).toArray.size = 8 := by rw [List.size_toArray, nums_length, hw2.1]
  go_wp2_with (refine wpList_put rfl 35 _ _ rfl (w.heap.size + 1) _ _ 35 rfl rfl D1 (by rw [hs8]; kernel_rfl) (hs8.trans rfl) (words_all H2) (fun W8 hp8 B8 => ?_))
  have HB8 := hp8.below (by omega) HB2
  clear hp8 HB2 D1
  obtain ⟨g0, g1, g2, g3, g4, g5, g6, g7, rfl, hg⟩ := words_form hw2
  have B8c := B8.cell; have B8l := B8.lt
  go_wp2_with fail
  refine bodyPost_ret (v := .tuple #[.agg (nums .u32 [g0, g1, g2, g3, g4, g5, g6, g7]).toArray, .int .i64 0]) ?_ rfl ⟨rfl, HB8⟩
  simp [results, Try.results24, go_sem, B8c, nums]
set_option maxHeartbeats 4000000 in
set_option maxRecDepth 20000 in
theorem stepx_bad (h0 h1 h2 h3 h4 h5 h6 h7 : Nat) (s : ByteArray) (w : World) (hs : ¬ s.size = 64) :
    Calls Try.prog 24 #[.agg (c35 h0 h1 h2 h3 h4 h5 h6 h7), .string s] w fun e w' => e = .returned (.tuple #[.agg z35, .int .i64 4]) ∧ Below w.heap.size w w' := by
  have hs64 : ¬ (s.size : Int) = 64 := by omega
  go_enter Try.func24, Try.ntmps24
  go_wp2_with fail
  refine bodyPost_ret (v := .tuple #[.agg z35, .int .i64 4]) ?_ rfl ⟨rfl, by (repeat (first | (with_reducible assumption) | (with_reducible exact Below.refl _ _) | with_reducible apply bl_drewN | with_reducible apply Below.drew | (with_reducible apply bl_alloc; focus (first | (simp; done) | (simp; omega) | omega)) | (with_reducible apply bl_set; focus (first | (simp; done) | (simp; omega) | omega))))⟩
  simp [results, Try.results24, go_sem]
end Go.Proofs.Ytgceepjfnncilaa
