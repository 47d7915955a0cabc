/- Package sha: Keys, Start. -/
import Derived.Test.YtgceepjfnncilaaSha2
import Derived.Test.YtgceepjfnncilaaPut
import Derived.Laws.Rows
namespace Go.Proofs.Ytgceepjfnncilaa
open Go.RowKit

/-- A row of so many numbers, the first j of K's, noughts behind. -/
def cellsAt (K : List Nat) (n j : Nat) : Array Value := (nums .u32 (K.take j) ++ List.replicate (n - j) (Value.int .u32 0)).toArray
theorem cellsAt_size (K : List Nat) (n j : Nat) (h : K.length = n) (hj : j ≤ n) : (cellsAt K n j).size = n := by
  simp [cellsAt, nums, h]; omega
theorem cellsAt_zero (K : List Nat) (n j : Nat) (h : K.length = n) (hj : j < n) : (cellsAt K n j)[j]? = some (.int .u32 0) := by
  unfold cellsAt
  rw [List.getElem?_toArray, List.getElem?_append_right (by rw [nums_length, List.length_take]; omega), nums_length, List.length_take, Nat.min_eq_left (by omega), Nat.sub_self]
  rw [List.getElem?_replicate, if_pos (by omega)]
theorem cellsAt_set (K : List Nat) (n j : Nat) (h : K.length = n) (hj : j < n) : (cellsAt K n j).setIfInBounds j (.int .u32 (K.getD j 0 : Nat)) = cellsAt K n (j + 1) := by
  unfold cellsAt
  rw [List.setIfInBounds_toArray]
  congr 1
  have hl : (nums .u32 (K.take j)).length = j := by rw [nums_length, List.length_take]; omega
  rw [List.set_append_right _ _ (by omega), hl, Nat.sub_self]
  obtain ⟨m, hm⟩ : ∃ m, n - j = m + 1 := ⟨n - j - 1, by omega⟩
  rw [hm, List.replicate_succ, List.set_cons_zero, show n - (j + 1) = m by omega]
  have e : K.take (j + 1) = K.take j ++ [K.getD j 0] := by
    rw [List.take_add_one, List.getElem?_eq_getElem (by omega), List.getD_eq_getElem?_getD, List.getElem?_eq_getElem (by omega)]; rfl
  rw [e, ← nums_snoc, List.append_assoc]; rfl
theorem cellsAt_all (K : List Nat) (n : Nat) (h : K.length = n) : cellsAt K n n = (nums .u32 K).toArray := by
  unfold cellsAt
  rw [Nat.sub_self, List.replicate_zero, List.append_nil, List.take_of_length_le (by omega)]
theorem map_get (l K : List Nat) (f : Nat → Nat) (h : l.map f = K) (j : Nat) (hj : j < l.length) : f (l.getD j 0) = K.getD j 0 := by
  subst h
  rw [List.getD_eq_getElem?_getD, List.getD_eq_getElem?_getD, List.getElem?_map, List.getElem?_eq_getElem hj]; rfl
theorem primes_row (n : Nat) (res : List Nat) (hn : n ≤ 64) (h : primesGo n 400 [] 2 = some res) (hl : res.length = n) (h0 : 0 < n) (W : World) :
    Calls Try.prog 42 #[.int .i64 n] W fun e w' => ∃ g c, e = .returned (.slice (some ⟨g, 0, none⟩) n c) ∧ W.heap.size ≤ g ∧ g < w'.heap.size ∧ (∀ j, j < n → w'.cell? ⟨g, j, none⟩ = some (.int .u64 (res.getD j 0 : Nat))) ∧ Below W.heap.size W w' := by
  refine (primes_any n res W hn h).mono ?_
  rintro e w' ⟨v, rfl, ho, hb⟩
  rw [hl] at ho
  obtain ⟨g, c, rfl, h1, h2, h3⟩ := own_reads ho h0
  refine ⟨g, c, rfl, h1, h2, fun j hj => ?_, hb⟩
  rw [h3 j (by omega), nums_get _ _ _ (by omega)]

set_option maxHeartbeats 8000000 in
set_option maxRecDepth 20000 in
theorem keys_any (w : World) : Calls Try.prog 19 #[] w fun e w' => e = .returned (.agg (nums .u32 constK).toArray) ∧ Below w.heap.size w w' := by
  have hKl : constK.length = 64 := by kernel_rfl
  have hPr := primes_row 64 primes64 (by decide) primes_64 (by kernel_rfl) (by decide)
  have hMap := fun j (hj : j < 64) => map_get primes64 constK (behL · true) keys_const j (by rw [show primes64.length = 64 by kernel_rfl]; exact hj)
  have hel : ∀ j, j < 64 → primes64.getD j 0 ≤ 400 := by
    have h5 : primes64.all (· ≤ 400) = true := by kernel_rfl
    intro j hj
    have h6 : j < primes64.length := by rw [show primes64.length = 64 by kernel_rfl]; exact hj
    rw [List.getD_eq_getElem?_getD, List.getElem?_eq_getElem h6]
    exact of_decide_eq_true (List.all_eq_true.1 h5 _ (List.getElem_mem h6))
  obtain ⟨K, hK⟩ : ∃ K, constK = K := ⟨_, rfl⟩
  obtain ⟨PS, hPS⟩ : ∃ K, primes64 = K := ⟨_, rfl⟩
  rw [hK] at hKl hMap ⊢
  rw [hPS] at hPr hMap hel
  have HPR := Lib.hid hPr; have HMAP := Lib.hid hMap; have HEL := Lib.hid hel
  clear hK hPS hPr hMap hel
  go_enter Try.func19, Try.ntmps19
  go_wp2_with fail
  refine (HPR.out _).mono ?_
  rintro e W1 ⟨g, c, rfl, hg0, hgl, hgc, hb⟩
  have HB1 : Below w.heap.size w W1 := Below.thn (by (repeat (first | (with_reducible assumption) | (with_reducible exact Below.refl _ _) | with_reducible apply bl_drewN | with_reducible apply Below.drew | (with_reducible apply bl_alloc; focus (first | (simp; done) | (simp; omega) | omega)) | (with_reducible apply bl_set; focus (first | (simp; done) | (simp; omega) | omega))))) hb
  have Z0 := Blk.below (b := w.heap.size) (t := 36) (by (repeat (first | (with_reducible assumption) | (with_reducible apply Blk.new'; (first | (with_reducible rfl) | (simp; done))) | with_reducible apply Blk.alloc | with_reducible apply Blk.set | ((with_reducible apply Blk.set_ne); focus (first | (simp; done) | (simp; omega))) | with_reducible apply Blk.drewN | with_reducible apply Blk.drew))) hb
  have B0 := Blk.below (b := w.heap.size + 1) (t := 36) (by (repeat (first | (with_reducible assumption) | (with_reducible apply Blk.new'; (first | (with_reducible rfl) | (simp; done))) | with_reducible apply Blk.alloc | with_reducible apply Blk.set | ((with_reducible apply Blk.set_ne); focus (first | (simp; done) | (simp; omega))) | with_reducible apply Blk.drewN | with_reducible apply Blk.drew))) hb
  have Z1 : Blk W1 w.heap.size (cellsAt K 64 0) 36 := Z0.conv rfl
  have B1 : Blk W1 (w.heap.size + 1) (cellsAt K 64 0) 36 := B0.conv rfl
  clear Z0 B0
  have hgn : w.heap.size + 1 < g := by simp at hg0; omega
  have HG := Lib.hid hgc
  clear hb hgc hg0
  go_wp2_with fail
  go_loopg [6] 64 (fun gk t6 wr => ∃ j : Nat, t6 = .int .i64 j ∧ j + gk = 64 ∧ Below w.heap.size w wr ∧ Blk wr w.heap.size (cellsAt K 64 0) 36 ∧ Blk wr (w.heap.size + 1) (cellsAt K 64 j) 36 ∧ g < wr.heap.size ∧ (∀ j, j < 64 → wr.cell? ⟨g, j, none⟩ = some (.int .u64 (PS.getD j 0 : Nat))))
  case atStart => exact ⟨0, rfl, by omega, HB1, Z1, B1, hgl, HG.out⟩
  case round =>
    clear HB1 Z1 B1 hgl HG
    obtain ⟨j, rfl, hj, HB, Z, B, hgl, hgc⟩ := hrel
    have HBs := HB.size
    cases gk with
    | zero =>
      obtain rfl : j = 64 := by omega
      rw [cellsAt_all K _ hKl] at B
      have hks : (nums .u32 K).toArray.size = 64 := by simp [nums, hKl]
      have hzs : (cellsAt K 64 0).size = 64 := cellsAt_size K 64 0 hKl (by omega)
      have hone : (nums .u32 K).toArray.all (·.oneCell') = true := all_oneCell_toArray (fun v hv => by
        obtain ⟨n, _, rfl⟩ := List.mem_map.1 hv; rfl)
      clear hj hgc
      go_wp2_with (first | (refine wpList_load_row rfl 36 _ rfl (w.heap.size + 1) rfl 36 _ (0, 0) _ B.out Try.underlying36 rfl (by rw [hks]; kernel_rfl) ?_) | (refine wpList_put rfl 36 _ _ rfl w.heap.size _ _ 36 rfl rfl Z (by rw [hks]; kernel_rfl) (hks.trans hzs.symm) hone (fun W9 hp9 B9 => ?_)))
      refine bodyPost_ret (v := .agg (nums .u32 K).toArray) ?_ rfl ⟨rfl, hp9.below (Nat.le_refl _) HB⟩
      exact results_cell_row (Try.results19) _ _ w.heap.size 36 _ (0, 0) _ rfl B9.out Try.underlying36 rfl (by rw [hks]; kernel_rfl)
    | succ gk =>
      have hjl : j < 64 := by omega
      have hji : (j : Int) < 64 := by omega
      obtain ⟨p, hp⟩ : ∃ p, PS.getD j 0 = p := ⟨_, rfl⟩
      have hp400 : p ≤ 400 := by rw [← hp]; exact HEL.out j hjl
      have hcell := hgc j hjl
      rw [hp] at hcell
      obtain ⟨kv, hkv⟩ : ∃ k, K.getD j 0 = k := ⟨_, rfl⟩
      have hval : behL p true = kv := by rw [← hp, ← hkv]; exact HMAP.out j hjl
      have hcs := cellsAt_set K 64 j hKl hjl
      rw [hkv] at hcs
      have HCS := Lib.hid hcs
      have HJ := Lib.hid hj
      have HP := Lib.hid hp
      have HGC := Lib.hid hgc
      clear hj hp hgc hcs hkv
      go_wp2_with fail
      refine (behind_any p true _ hp400).mono ?_
      rintro e W2 ⟨rfl, hb⟩
      have HB2 := Below.thn HB hb HBs
      have Z2 := Z.below hb
      have B2 := B.below hb
      have hgl2 : g < W2.heap.size := Nat.lt_of_lt_of_le hgl hb.size
      have HGC2 : ∀ j, j < 64 → W2.cell? ⟨g, j, none⟩ = some (.int .u64 (PS.getD j 0 : Nat)) := fun j hj => (hb.cell (p := ⟨g, j, none⟩) hgl).trans (HGC.out j hj)
      have HB2s := HB2.size
      have hc0 : W2.cell? ⟨w.heap.size + 1, j, none⟩ = some (.int .u32 0) := (B2.cell j).trans (cellsAt_zero K 64 j hKl hjl)
      have hf0 := B2.frozen j
      have hbl := B2.lt
      clear hb HB Z B HBs hcell hgl HGC
      rw [hval]
      have HGC3 := Lib.hid HGC2
      clear HGC2
      go_wp2_with fail
      go_roundg gk
      case rel => exact ⟨j + 1, by simp, by have := HJ.out; omega, HB2.setCell (p := ⟨w.heap.size + 1, j, none⟩) (by show w.heap.size ≤ w.heap.size + 1; omega) _, Z2.set_ne (by simp), (B2.set).conv HCS.out, by simpa [World.setCell] using hgl2, fun i hi => by rw [World.cell?_of_block (Below.heap_setCell _ _ _ _ (by show g ≠ w.heap.size + 1; omega))]; exact HGC3.out i hi⟩
      case measure => omega
set_option maxHeartbeats 8000000 in
set_option maxRecDepth 20000 in
theorem start_any (w : World) : Calls Try.prog 20 #[] w fun e w' => e = .returned (.agg (nums .u32 constH).toArray) ∧ Below w.heap.size w w' := by
  have hKl : constH.length = 8 := by kernel_rfl
  have hPr := primes_row 8 [2, 3, 5, 7, 11, 13, 17, 19] (by decide) primes_8 (by kernel_rfl) (by decide)
  have hMap := fun j (hj : j < 8) => map_get [2, 3, 5, 7, 11, 13, 17, 19] constH (behL · false) start_const j (by rw [show [2, 3, 5, 7, 11, 13, 17, 19].length = 8 by kernel_rfl]; exact hj)
  have hel : ∀ j, j < 8 → [2, 3, 5, 7, 11, 13, 17, 19].getD j 0 ≤ 400 := by
    have h5 : [2, 3, 5, 7, 11, 13, 17, 19].all (· ≤ 400) = true := by kernel_rfl
    intro j hj
    have h6 : j < [2, 3, 5, 7, 11, 13, 17, 19].length := by rw [show [2, 3, 5, 7, 11, 13, 17, 19].length = 8 by kernel_rfl]; exact hj
    rw [List.getD_eq_getElem?_getD, List.getElem?_eq_getElem h6]
    exact of_decide_eq_true (List.all_eq_true.1 h5 _ (List.getElem_mem h6))
  obtain ⟨K, hK⟩ : ∃ K, constH = K := ⟨_, rfl⟩
  obtain ⟨PS, hPS⟩ : ∃ K, [2, 3, 5, 7, 11, 13, 17, 19] = K := ⟨_, rfl⟩
  rw [hK] at hKl hMap ⊢
  rw [hPS] at hPr hMap hel
  have HPR := Lib.hid hPr; have HMAP := Lib.hid hMap; have HEL := Lib.hid hel
  clear hK hPS hPr hMap hel
  go_enter Try.func20, Try.ntmps20
  go_wp2_with fail
  refine (HPR.out _).mono ?_
  rintro e W1 ⟨g, c, rfl, hg0, hgl, hgc, hb⟩
  have HB1 : Below w.heap.size w W1 := Below.thn (by (repeat (first | (with_reducible assumption) | (with_reducible exact Below.refl _ _) | with_reducible apply bl_drewN | with_reducible apply Below.drew | (with_reducible apply bl_alloc; focus (first | (simp; done) | (simp; omega) | omega)) | (with_reducible apply bl_set; focus (first | (simp; done) | (simp; omega) | omega))))) hb
  have Z0 := Blk.below (b := w.heap.size) (t := 35) (by (repeat (first | (with_reducible assumption) | (with_reducible apply Blk.new'; (first | (with_reducible rfl) | (simp; done))) | with_reducible apply Blk.alloc | with_reducible apply Blk.set | ((with_reducible apply Blk.set_ne); focus (first | (simp; done) | (simp; omega))) | with_reducible apply Blk.drewN | with_reducible apply Blk.drew))) hb
  have B0 := Blk.below (b := w.heap.size + 1) (t := 35) (by (repeat (first | (with_reducible assumption) | (with_reducible apply Blk.new'; (first | (with_reducible rfl) | (simp; done))) | with_reducible apply Blk.alloc | with_reducible apply Blk.set | ((with_reducible apply Blk.set_ne); focus (first | (simp; done) | (simp; omega))) | with_reducible apply Blk.drewN | with_reducible apply Blk.drew))) hb
  have Z1 : Blk W1 w.heap.size (cellsAt K 8 0) 35 := Z0.conv rfl
  have B1 : Blk W1 (w.heap.size + 1) (cellsAt K 8 0) 35 := B0.conv rfl
  clear Z0 B0
  have hgn : w.heap.size + 1 < g := by simp at hg0; omega
  have HG := Lib.hid hgc
  clear hb hgc hg0
  go_wp2_with fail
  go_loopg [6] 8 (fun gk t6 wr => ∃ j : Nat, t6 = .int .i64 j ∧ j + gk = 8 ∧ Below w.heap.size w wr ∧ Blk wr w.heap.size (cellsAt K 8 0) 35 ∧ Blk wr (w.heap.size + 1) (cellsAt K 8 j) 35 ∧ g < wr.heap.size ∧ (∀ j, j < 8 → wr.cell? ⟨g, j, none⟩ = some (.int .u64 (PS.getD j 0 : Nat))))
  case atStart => exact ⟨0, rfl, by omega, HB1, Z1, B1, hgl, HG.out⟩
  case round =>
    clear HB1 Z1 B1 hgl HG
    obtain ⟨j, rfl, hj, HB, Z, B, hgl, hgc⟩ := hrel
    have HBs := HB.size
    cases gk with
    | zero =>
      obtain rfl : j = 8 := by omega
      rw [cellsAt_all K _ hKl] at B
      have hks : (nums .u32 K).toArray.size = 8 := by simp [nums, hKl]
      have hzs : (cellsAt K 8 0).size = 8 := cellsAt_size K 8 0 hKl (by omega)
      have hone : (nums .u32 K).toArray.all (·.oneCell') = true := all_oneCell_toArray (fun v hv => by
        obtain ⟨n, _, rfl⟩ := List.mem_map.1 hv; rfl)
      clear hj hgc
      go_wp2_with (first | (refine wpList_load_row rfl 35 _ rfl (w.heap.size + 1) rfl 35 _ (0, 0) _ B.out Try.underlying35 rfl (by rw [hks]; kernel_rfl) ?_) | (refine wpList_put rfl 35 _ _ rfl w.heap.size _ _ 35 rfl rfl Z (by rw [hks]; kernel_rfl) (hks.trans hzs.symm) hone (fun W9 hp9 B9 => ?_)))
      refine bodyPost_ret (v := .agg (nums .u32 K).toArray) ?_ rfl ⟨rfl, hp9.below (Nat.le_refl _) HB⟩
      exact results_cell_row (Try.results20) _ _ w.heap.size 35 _ (0, 0) _ rfl B9.out Try.underlying35 rfl (by rw [hks]; kernel_rfl)
    | succ gk =>
      have hjl : j < 8 := by omega
      have hji : (j : Int) < 8 := by omega
      obtain ⟨p, hp⟩ : ∃ p, PS.getD j 0 = p := ⟨_, rfl⟩
      have hp400 : p ≤ 400 := by rw [← hp]; exact HEL.out j hjl
      have hcell := hgc j hjl
      rw [hp] at hcell
      obtain ⟨kv, hkv⟩ : ∃ k, K.getD j 0 = k := ⟨_, rfl⟩
      have hval : behL p false = kv := by rw [← hp, ← hkv]; exact HMAP.out j hjl
      have hcs := cellsAt_set K 8 j hKl hjl
      rw [hkv] at hcs
      have HCS := Lib.hid hcs
      have HJ := Lib.hid hj
      have HP := Lib.hid hp
      have HGC := Lib.hid hgc
      clear hj hp hgc hcs hkv
      go_wp2_with fail
      refine (behind_any p false _ hp400).mono ?_
      rintro e W2 ⟨rfl, hb⟩
      have HB2 := Below.thn HB hb HBs
      have Z2 := Z.below hb
      have B2 := B.below hb
      have hgl2 : g < W2.heap.size := Nat.lt_of_lt_of_le hgl hb.size
      have HGC2 : ∀ j, j < 8 → W2.cell? ⟨g, j, none⟩ = some (.int .u64 (PS.getD j 0 : Nat)) := fun j hj => (hb.cell (p := ⟨g, j, none⟩) hgl).trans (HGC.out j hj)
      have HB2s := HB2.size
      have hc0 : W2.cell? ⟨w.heap.size + 1, j, none⟩ = some (.int .u32 0) := (B2.cell j).trans (cellsAt_zero K 8 j hKl hjl)
      have hf0 := B2.frozen j
      have hbl := B2.lt
      clear hb HB Z B HBs hcell hgl HGC
      rw [hval]
      have HGC3 := Lib.hid HGC2
      clear HGC2
      go_wp2_with fail
      go_roundg gk
      case rel => exact ⟨j + 1, by simp, by have := HJ.out; omega, HB2.setCell (p := ⟨w.heap.size + 1, j, none⟩) (by show w.heap.size ≤ w.heap.size + 1; omega) _, Z2.set_ne (by simp), (B2.set).conv HCS.out, by simpa [World.setCell] using hgl2, fun i hi => by rw [World.cell?_of_block (Below.heap_setCell _ _ _ _ (by show g ≠ w.heap.size + 1; omega))]; exact HGC3.out i hi⟩
      case measure => omega
end Go.Proofs.Ytgceepjfnncilaa
