/- The law of AES: awake. -/
import Derived.Test.YtkblkdojmfgneaaAes8
namespace Go.Proofs.Ytkblkdojmfgneaa
open Go.RowKit

def seventeens : List UInt8 := [0, 17, 34, 51, 68, 85, 102, 119, 136, 153, 170, 187, 204, 221, 238, 255]
theorem seventeens_get (i : Nat) (h : i < 16) : (seventeens.getD i 0).toNat = 17 * i := by
  have : i = 0 ∨ i = 1 ∨ i = 2 ∨ i = 3 ∨ i = 4 ∨ i = 5 ∨ i = 6 ∨ i = 7 ∨ i = 8 ∨ i = 9 ∨ i = 10 ∨ i = 11 ∨ i = 12 ∨ i = 13 ∨ i = 14 ∨ i = 15 := by omega
  rcases this with rfl | rfl | rfl | rfl | rfl | rfl | rfl | rfl | rfl | rfl | rfl | rfl | rfl | rfl | rfl | rfl <;> rfl
theorem keysN_size (key : List UInt8) (hk : key.length = 16) : (kcells (keysN key 10)).toArray.size = 433 := by rw [List.size_toArray, kcells_len _ (keysN_len key hk 10)]
set_option maxHeartbeats 8000000 in
set_option maxRecDepth 20000 in
theorem awake05_any (w : World) : Calls Try.prog 80 #[] w fun e w' => e = .returned (.bool true) ∧ Below w.heap.size w w' := by
  obtain ⟨key, hkey⟩ : ∃ key : List UInt8, key = [0, 1, 2, 3, 4, 5, 6, 7, 8, 9, 10, 11, 12, 13, 14, 15] := ⟨_, rfl⟩
  have hkl : key.length = 16 := by rw [hkey]; rfl
  have hnew : ∀ W, Calls Try.prog 15 #[.string ⟨#[0, 1, 2, 3, 4, 5, 6, 7, 8, 9, 10, 11, 12, 13, 14, 15]⟩] W fun e w' => e = .returned (.tuple #[.agg (kcells (keysN key 10)).toArray, .int .i64 0]) ∧ Below W.heap.size W w' := by
    intro W
    rw [hkey]
    exact new_any ⟨#[0, 1, 2, 3, 4, 5, 6, 7, 8, 9, 10, 11, 12, 13, 14, 15]⟩ W rfl
  have henc := fun W => encrypt_any key seventeens hkl rfl W
  have hfips : encL key seventeens = [105, 196, 224, 216, 106, 123, 4, 48, 216, 205, 183, 128, 112, 180, 197, 90] := by rw [hkey]; exact fips
  rw [hfips] at henc
  have hone := kcells_one (keysN key 10)
  have hKs := keysN_size key hkl
  obtain ⟨K, hK⟩ : ∃ K, (kcells (keysN key 10)).toArray = K := ⟨_, rfl⟩
  rw [hK] at hnew henc hone hKs
  have HN := Lib.hid hnew; have HE := Lib.hid henc
  clear hnew henc hfips hkey hkl hK
  go_enter Try.func80, Try.ntmps80
  go_wp2_with fail
  refine (HN.out _).mono ?_
  rintro e W1 ⟨rfl, hb⟩
  have HB1 := Below.thn (Below.refl w.heap.size w) hb (Nat.le_refl _)
  have HBs := HB1.size
  clear hb
  go_upto_region 2 with (refine wpList_put rfl 29 _ _ rfl W1.heap.size _ _ 29 rfl rfl (Blk.new _ _ _) (by rw [hKs]; kernel_rfl) (hKs.trans zkey_size.symm) hone (fun W2 hp2 K2 => ?_))
  (try simp only [Act.put])
  obtain ⟨b, hb⟩ : ∃ b, W1.heap.size = b := ⟨_, rfl⟩
  have HB2 : Below w.heap.size w W2 := hp2.below (by omega) (by (repeat (first | (with_reducible assumption) | (with_reducible exact Below.refl _ _) | with_reducible apply bl_drewN | with_reducible apply Below.drew | (with_reducible apply bl_alloc; focus (first | (simp; done) | (simp; omega) | omega)) | (with_reducible apply bl_set; focus (first | (simp; done) | (simp; omega) | omega)))))
  have HB2s : b < W2.heap.size := by rw [hp2.size]; simp; omega
  rw [hb] at K2 HBs ⊢
  clear hp2 hb HB1
  go_wp2_with fail
  refine wp_absQ (fun W => Below w.heap.size w W ∧ Blk W b K 29 ∧ Blk W W2.heap.size (bcells (List.replicate 16 0)) 25) ⟨by (repeat (first | (with_reducible assumption) | (with_reducible exact Below.refl _ _) | with_reducible apply bl_drewN | with_reducible apply Below.drew | (with_reducible apply bl_alloc; focus (first | (simp; done) | (simp; omega) | omega)) | (with_reducible apply bl_set; focus (first | (simp; done) | (simp; omega) | omega)))), Blk.alloc K2, Blk.new' rfl⟩ (fun W3 V3 => ?_)
  obtain ⟨c, hc⟩ : ∃ c, W2.heap.size = c := ⟨_, rfl⟩
  rw [hc] at V3 HB2s ⊢
  clear K2 HB2 hc
  obtain ⟨HB3, K3, C3⟩ := V3
  go_loopg [10] 16 (fun gk t10 wr => ∃ (i : Nat) (x : List UInt8), i + gk = 16 ∧ t10 = .int .i64 (i : Int) ∧ Below w.heap.size w wr ∧ Blk wr b K 29 ∧ Blk wr c (bcells x) 25 ∧ Fill seventeens (List.replicate 16 0) x 16 i)
  case atStart => exact ⟨0, _, rfl, rfl, HB3, K3, C3, .start (by simp)⟩
  case round =>
    clear HB3 K3 C3
    obtain ⟨i, x, hi, rfl, HB, KB, C, F⟩ := hrel
    cases gk with
    | zero =>
      obtain rfl : i = 16 := by omega
      clear hi
      rw [F.all rfl] at C
      have hbl := C.lt
      clear F
      go_wp2_with (first | (refine wpList_load_row rfl 29 _ rfl b rfl 29 _ (0, 0) _ KB.out Try.underlying29 rfl (by rw [hKs]; kernel_rfl) ?_) | (refine wpList_load_row rfl 25 _ rfl c rfl 25 _ (0, 0) _ C.out Try.underlying25 rfl (by kernel_rfl) ?_))
      refine (HE.out _).mono ?_
      rintro e W5 ⟨rfl, hb5⟩
      have HB5 := Below.thn HB hb5 HB.size
      clear hb5
      go_upto_region 9 with (refine wpList_put rfl 25 _ _ rfl W5.heap.size _ _ 25 rfl rfl (Blk.new _ _ _) (by kernel_rfl) rfl (bcells_one _) (fun W6 hp6 B6 => ?_))
      (try simp only [Act.put])
      have HBs5 := HB5.size
      have HB6 : Below w.heap.size w W6 := hp6.below (by omega) (by (repeat (first | (with_reducible assumption) | (with_reducible exact Below.refl _ _) | with_reducible apply bl_drewN | with_reducible apply Below.drew | (with_reducible apply bl_alloc; focus (first | (simp; done) | (simp; omega) | omega)) | (with_reducible apply bl_set; focus (first | (simp; done) | (simp; omega) | omega)))))
      have c0 : W6.cell? ⟨W5.heap.size, 0, none⟩ = some (.int .u8 105) := B6.cell 0
      have c1 : W6.cell? ⟨W5.heap.size, 1, none⟩ = some (.int .u8 196) := B6.cell 1
      have c2 : W6.cell? ⟨W5.heap.size, 15, none⟩ = some (.int .u8 90) := B6.cell 15
      go_wp2_with fail
      go_ret
      exact ⟨rfl, HB6⟩
    | succ g =>
      have hi16 : (i : Int) < 16 := by omega
      have hin : i < 16 := by omega
      have F2 := F.step hin
      have h17 := seventeens_get i hin
      obtain ⟨v, hv⟩ : ∃ v, seventeens.getD i 0 = v := ⟨_, rfl⟩
      rw [hv] at h17 F2
      have e1 : (17 : Int) * (i : Int) = ((v.toNat : Nat) : Int) := by omega
      have e2 : ((v.toNat : Nat) : Int) % 256 = ((v.toNat : Nat) : Int) := by have := v.toNat_lt; omega
      have c4 : wr.cell? ⟨c, i, none⟩ = _ := C.cell i
      rw [bcells_get x i (by rw [F.len]; exact hin)] at c4
      have f4 := C.frozen i
      have C9 := C.set (o := i) (v := .int .u8 ((v.toNat : Nat) : Int))
      rw [bcells_set] at C9
      have K9 := KB.set_ne (a := ⟨c, i, none⟩) (v := .int .u8 ((v.toNat : Nat) : Int)) (by show b ≠ c; omega)
      have HB9 := HB.setCell (p := ⟨c, i, none⟩) (by show w.heap.size ≤ c; omega) (.int .u8 ((v.toNat : Nat) : Int))
      have HF := Lib.hid F2; have HI := Lib.hid hi
      clear HB KB C F F2 hv h17 hi
      go_wp2_with fail
      go_roundg g
      case rel => exact ⟨i + 1, _, by have := HI.out; omega, by simp, HB9, K9, C9, HF.out⟩
      case measure => omega
set_option maxHeartbeats 4000000 in
theorem awake05x_any (w : World) : Calls Try.prog 48 #[] w fun e w' => e = .returned (.bool true) ∧ Below w.heap.size w w' := by
  go_enter Try.func48, Try.ntmps48
  go_wp2_with fail
  refine (awake05_any _).mono ?_
  rintro e W1 ⟨rfl, hb⟩
  go_wp2_with fail
  go_ret
  exact ⟨rfl, hb⟩
end Go.Proofs.Ytkblkdojmfgneaa
