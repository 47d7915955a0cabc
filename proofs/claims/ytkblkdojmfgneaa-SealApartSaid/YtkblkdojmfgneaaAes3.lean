/- Package aes: Box. -/
import Derived.Test.YtkblkdojmfgneaaAes2
import Derived.Laws.Rows
import Derived.WalkMore
namespace Go.Proofs.Ytkblkdojmfgneaa
open Go.RowKit

theorem zero27 : (Try.zeroCells27) = ((List.replicate 256 (0 : UInt8)).map bval).toArray := by kernel_rfl
set_option maxHeartbeats 8000000 in
set_option maxRecDepth 20000 in
theorem box_any (w : World) : Calls Try.prog 49 #[] w fun e w' => e = .returned (.agg (boxL.map bval).toArray) ∧ Below w.heap.size w w' := by
  have hz := zero27
  go_enter Try.func49, Try.ntmps49
  go_wp2_with fail
  go_step3
  go_upto_region 2 with fail
  refine wp_absQ (fun W => Below w.heap.size w W ∧ Blk W w.heap.size ((List.replicate 256 (0 : UInt8)).map bval).toArray 27 ∧ Blk W (w.heap.size + 1) ((List.replicate 256 (0 : UInt8)).map bval).toArray 27) ⟨by (repeat (first | (with_reducible assumption) | (with_reducible exact Below.refl _ _) | with_reducible apply bl_drewN | with_reducible apply Below.drew | (with_reducible apply bl_alloc; focus (first | (simp; done) | (simp; omega) | omega)) | (with_reducible apply bl_set; focus (first | (simp; done) | (simp; omega) | omega)))), ?_, ?_⟩ (fun W1 V1 => ?_)
  · rw [← hz]; exact Blk.alloc (Blk.new _ _ _)
  · rw [← hz]; exact Blk.new' (by simp)
  obtain ⟨HB1, Z1, B1⟩ := V1
  have c1 := B1.cell 0
  rw [bytes_get _ 0 (by simp)] at c1
  have f1 := B1.frozen 0
  have l1 := B1.lt
  have B2 := B1.set (o := 0) (v := bval 99)
  rw [bytes_set] at B2
  have Z2 : Blk (W1.setCell ⟨w.heap.size + 1, 0, none⟩ (bval 99)) w.heap.size ((List.replicate 256 (0 : UInt8)).map bval).toArray 27 := Z1.set_ne (by simp)
  have HB2 := HB1.setCell (p := ⟨w.heap.size + 1, 0, none⟩) (by show w.heap.size ≤ w.heap.size + 1; omega) (bval 99)
  go_upto_region 3 with fail
  refine wp_absQ (fun W => Below w.heap.size w W ∧ Blk W w.heap.size ((List.replicate 256 (0 : UInt8)).map bval).toArray 27 ∧ Blk W (w.heap.size + 1) ((boxGo 0).map bval).toArray 27) ⟨HB2, Z2, B2⟩ (fun W3 V3 => ?_)
  obtain ⟨HB3, Z3, B3⟩ := V3
  clear HB1 Z1 B1 c1 f1 l1 B2 Z2 HB2
  go_wp2_with fail
  go_step3
  go_wp2_with fail
  go_loopg [2, 3] 255 (fun gk t2 t3 wr => ∃ k : Nat, k + gk = 255 ∧ t2 = .int .u8 (((pL.getD k 0).toNat : Nat) : Int) ∧ t3 = .int .u8 (((qL.getD k 0).toNat : Nat) : Int) ∧ k < 255 ∧ Below w.heap.size w wr ∧ Blk wr w.heap.size ((List.replicate 256 (0 : UInt8)).map bval).toArray 27 ∧ Blk wr (w.heap.size + 1) ((boxGo k).map bval).toArray 27)
  case atStart => exact ⟨0, rfl, rfl, rfl, by omega, HB3, Z3, B3⟩
  case round =>
    clear HB3 Z3 B3
    obtain ⟨k, hkg, rfl, rfl, hk, HB, Z, B⟩ := hrel
    obtain ⟨g, rfl⟩ : ∃ g, gk = g + 1 := ⟨gk - 1, by omega⟩
    obtain ⟨e1, e2, e3, e4⟩ := box_at k hk
    have hbg : boxGo (k + 1) = (boxGo k).set (pL.getD (k + 1) 0).toNat (sL.getD (k + 1) 0) := rfl
    have hlen := boxGo_len k
    obtain ⟨p, hp⟩ : ∃ p, pL.getD k 0 = p := ⟨_, rfl⟩
    obtain ⟨q, hq⟩ : ∃ p, qL.getD k 0 = p := ⟨_, rfl⟩
    obtain ⟨p2, hp2⟩ : ∃ p, pL.getD (k + 1) 0 = p := ⟨_, rfl⟩
    obtain ⟨q2, hq2⟩ : ∃ p, qL.getD (k + 1) 0 = p := ⟨_, rfl⟩
    obtain ⟨sv, hsv⟩ : ∃ p, sL.getD (k + 1) 0 = p := ⟨_, rfl⟩
    rw [hp, hp2] at e1; rw [hq, hq2] at e2; rw [hq2, hsv] at e3; rw [hp2] at e4; rw [hp2, hsv] at hbg
    rw [hp, hq]
    have ht1 := fun W => times_any p 3 W
    have ht2 := fun W => times_any q 246 W
    rw [e1, show (((3 : UInt8).toNat : Nat) : Int) = 3 from rfl] at ht1
    rw [e2, show (((246 : UInt8).toNat : Nat) : Int) = 246 from rfl] at ht2
    have HT1 := Lib.hid ht1; have HT2 := Lib.hid ht2; have HK := Lib.hid hkg; have HP2 := Lib.hid hp2; have HQ2 := Lib.hid hq2; have HBG := Lib.hid hbg; have HLEN := Lib.hid hlen
    have HBs := HB.size
    clear ht1 ht2 hkg hp2 hq2 hbg hlen e1 e2 hp hq hsv
    go_wp2_with fail
    refine (HT1.out _).mono ?_
    rintro e W4 ⟨rfl, hb⟩
    have HB4 := Below.thn HB hb HBs
    have Z4 := Z.below hb; have B4 := B.below hb
    have HB4s := HB4.size
    clear hb HB Z B HBs
    go_wp2_with fail
    refine (HT2.out _).mono ?_
    rintro e W5 ⟨rfl, hb⟩
    have HB5 := Below.thn HB4 hb HB4s
    have Z5 := Z4.below hb; have B5 := B4.below hb
    clear hb HB4 Z4 B4 HB4s
    go_wp2_with fail
    go_loopg [4, 5] 4 (fun g2 t4 t5 wr => ∃ i : Nat, i + g2 = 4 ∧ t4 = .int .u8 (((affGo8 q2 i).toNat : Nat) : Int) ∧ t5 = .int .i64 ((i + 1 : Nat) : Int) ∧ wr = W5)
    case atStart => exact ⟨0, rfl, rfl, rfl, rfl⟩
    case round =>
      obtain ⟨i, hi, rfl, rfl, hwr⟩ := hrel
      subst hwr
      cases gk with
      | zero =>
        obtain rfl : i = 4 := by omega
        have hn : ¬ (((4 + 1 : Nat) : Int) ≤ 4) := by omega
        have hx := sum_xor8 (affGo8 q2 4) 99
        rw [affGo8_all, e3, show (((99 : UInt8).toNat : Nat) : Int) = 99 from rfl] at hx
        obtain ⟨cc, hcc⟩ : ∃ c, affGo8 q2 4 = c := ⟨_, rfl⟩
        rw [hcc] at hx ⊢
        have hpl : p2.toNat < (boxGo k).length := by rw [HLEN.out]; exact p2.toNat_lt
        have c5 := B5.cell p2.toNat
        rw [bytes_get _ _ hpl] at c5
        have f5 := B5.frozen p2.toNat
        have l5 := B5.lt
        have B6 := B5.set (o := p2.toNat) (v := bval sv)
        rw [bytes_set, ← HBG.out] at B6
        have Z6 := Z5.set_ne (a := ⟨w.heap.size + 1, p2.toNat, none⟩) (v := bval sv) (by simp)
        have HB6 := HB5.setCell (p := ⟨w.heap.size + 1, p2.toNat, none⟩) (by show w.heap.size ≤ w.heap.size + 1; omega) (bval sv)
        have hp256 : ((p2.toNat : Nat) : Int) < 256 := by have := p2.toNat_lt; omega
        clear hi hn
        go_upto_region 12 with fail
        refine wp_absQ (fun W => Below w.heap.size w W ∧ Blk W w.heap.size ((List.replicate 256 (0 : UInt8)).map bval).toArray 27 ∧ Blk W (w.heap.size + 1) ((boxGo (k + 1)).map bval).toArray 27) ⟨HB6, Z6, B6⟩ (fun W7 V7 => ?_)
        obtain ⟨HB7, Z7, B7⟩ := V7
        clear B5 Z5 HB5 c5 f5 l5 B6 Z6 HB6 hx
        by_cases h1 : p2 = 1
        · have hk254 : k = 254 := e4.1 h1
          have h1i : ((p2.toNat : Nat) : Int) = 1 := by rw [h1]; rfl
          have hb255 : boxGo (k + 1) = boxL := by rw [hk254]; exact box_all
          rw [hb255] at B7
          have hbs : (boxL.map bval).toArray.size = 256 := by rw [List.size_toArray, List.length_map, boxL_len]
          have hzs : ((List.replicate 256 (0 : UInt8)).map bval).toArray.size = 256 := by simp
          have hone := bytes_one boxL
          obtain ⟨BX, hBX⟩ : ∃ B, (boxL.map bval).toArray = B := ⟨_, rfl⟩
          rw [hBX] at hbs hone B7
          clear hb255 hk254
          go_wp2_with (first | (refine wpList_load_row rfl 27 _ rfl (w.heap.size + 1) rfl 27 _ (0, 0) _ B7.out Try.underlying27 rfl (by rw [hbs]; kernel_rfl) ?_) | (refine wpList_put rfl 27 _ _ rfl w.heap.size _ _ 27 rfl rfl Z7 (by rw [hbs]; kernel_rfl) (hbs.trans hzs.symm) hone (fun W9 hp9 B9 => ?_)))
          all_goals
            first
            | (simp only [Exit.noGoto]; refine bodyPost_ret (v := .agg BX) ?_ rfl ⟨by rw [hBX], hp9.below (Nat.le_refl _) HB7⟩; exact results_cell_row (Try.results49) _ _ w.heap.size 27 _ (0, 0) _ rfl B9.out Try.underlying27 rfl (by rw [hbs]; kernel_rfl))
            | skip
        · have hk254 : k ≠ 254 := fun h => h1 (e4.2 h)
          have h1i : ¬ ((p2.toNat : Nat) : Int) = 1 := fun h => h1 (UInt8.toNat_inj.1 (by show p2.toNat = 1; omega))
          go_wp2_with fail
          go_roundg g
          case rel => exact ⟨k + 1, by have := HK.out; omega, by rw [HP2.out], by rw [HQ2.out], by omega, HB7, Z7, B7⟩
          case measure => omega
      | succ g2 =>
        have hn : (((i + 1 : Nat) : Int) ≤ 4) := by omega
        obtain ⟨j, hj⟩ : ∃ j, i + 1 = j := ⟨_, rfl⟩
        rw [hj] at hn ⊢
        have hr := fun W => rot8_any q2 j W (by omega) (by omega)
        have hx := sum_xor8 (affGo8 q2 i) (rotl8 q2 j)
        have hnx : affGo8 q2 i ^^^ rotl8 q2 j = affGo8 q2 j := by rw [← hj]; rfl
        rw [hnx] at hx
        obtain ⟨r, hr'⟩ : ∃ r, rotl8 q2 j = r := ⟨_, rfl⟩
        obtain ⟨c1, hc1⟩ : ∃ r, affGo8 q2 i = r := ⟨_, rfl⟩
        obtain ⟨c2, hc2⟩ : ∃ r, affGo8 q2 j = r := ⟨_, rfl⟩
        rw [hr'] at hr hx; rw [hc1, hc2] at hx; rw [hc1]
        have HR := Lib.hid hr; have HC2 := Lib.hid hc2; have HJ := Lib.hid hj; have HI := Lib.hid hi
        have hj4 : j ≤ 4 := by omega
        clear hr hnx hr' hc1 hc2 hj hi
        go_wp2_with fail
        refine (HR.out _).mono ?_
        rintro e W6 ⟨rfl, rfl⟩
        go_wp2_with fail
        go_roundg g2
        case rel => exact ⟨j, by have := HI.out; have := HJ.out; omega, by rw [HC2.out], by simp, rfl⟩
        case measure => omega
end Go.Proofs.Ytkblkdojmfgneaa
