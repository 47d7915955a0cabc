/- Package aes: Times; bits.RotateLeft8. bits.RotateLeft8; package aes: Box. Package aes: Box. Package aes: a key's cells. Package aes: New. -/
import Derived.Test.YtkblkdojmfgneaaAesL
import Derived.Test.YtkblkdojmfgneaaHmacA
import Derived.Test.YtkblkdojmfgneaaShaA
import Derived.Laws.Rows
import Derived.WalkMore
import Derived.Test.YtkblkdojmfgneaaTyp2
import Derived.Deep.MidRow
namespace Go.Proofs.Ytkblkdojmfgneaa
open Go.RowKit

theorem timesGo_zero (n : Nat) (a p : UInt8) : timesGo n a 0 p = p := by
  cases n with
  | zero => rfl
  | succ n => rw [timesGo, if_pos rfl]
set_option maxHeartbeats 4000000 in
set_option maxRecDepth 20000 in
theorem times_any (a b : UInt8) (w : World) : Calls Try.prog 50 #[.int .u8 ((a.toNat : Nat) : Int), .int .u8 ((b.toNat : Nat) : Int)] w fun e w' => e = .returned (.int .u8 (((timesL a b).toNat : Nat) : Int)) ∧ Below w.heap.size w w' := by
  obtain ⟨R, hR⟩ : ∃ R, timesGo 8 a b 0 = R := ⟨_, rfl⟩
  have hr : timesL a b = R := hR
  rw [hr]
  have HR := Lib.hid hR
  clear hR hr
  go_enter Try.func50, Try.ntmps50
  go_wp2_with fail
  go_loopg [0, 1, 5] 8 (fun gk t0 t1 t5 wr => ∃ a b p : UInt8, t0 = .int .u8 ((a.toNat : Nat) : Int) ∧ t1 = .int .u8 ((b.toNat : Nat) : Int) ∧ t5 = .int .u8 ((p.toNat : Nat) : Int) ∧ b.toNat < 2 ^ gk ∧ timesGo gk a b p = R ∧ Below w.heap.size w wr)
  case atStart => exact ⟨a, b, 0, rfl, rfl, rfl, b.toNat_lt, HR.out, Below.refl _ _⟩
  case round =>
    clear HR
    obtain ⟨a, b, p, rfl, rfl, rfl, hb, hgo, HB⟩ := hrel
    by_cases h0 : b = 0
    · subst h0
      rw [timesGo_zero] at hgo
      subst hgo
      have hz : ¬ (0 : Int) < (((0 : UInt8).toNat : Nat) : Int) := by decide
      clear hb
      go_wp2_with fail
      go_ret
      exact ⟨rfl, HB⟩
    · have hb0 : b.toNat ≠ 0 := fun h => h0 (UInt8.toNat_inj.1 h)
      have hpos : (0 : Int) < ((b.toNat : Nat) : Int) := by omega
      obtain ⟨g, rfl⟩ : ∃ g, gk = g + 1 := by
        cases gk with
        | zero => exact absurd hb (by simp; omega)
        | succ g => exact ⟨g, rfl⟩
      rw [timesGo, if_neg h0] at hgo
      obtain ⟨s, hs⟩ : ∃ s, a <<< 1 = s := ⟨_, rfl⟩
      obtain ⟨c, hc⟩ : ∃ s, a >>> 7 = s := ⟨_, rfl⟩
      obtain ⟨m, hm⟩ : ∃ s, c * 27 = s := ⟨_, rfl⟩
      obtain ⟨n, hn⟩ : ∃ z, s ^^^ m = z := ⟨_, rfl⟩
      obtain ⟨b2, hb2⟩ : ∃ s, b >>> 1 = s := ⟨_, rfl⟩
      obtain ⟨bit, hbit⟩ : ∃ s, b &&& 1 = s := ⟨_, rfl⟩
      have e1 : ((a.toNat : Nat) : Int) * 2 % 256 = ((s.toNat : Nat) : Int) := by rw [← hs]; simp [UInt8.toNat_shiftLeft, Nat.shiftLeft_eq]
      have e2 : ((a.toNat : Nat) : Int) / 128 = ((c.toNat : Nat) : Int) := by rw [← hc]; simp [UInt8.toNat_shiftRight, Nat.shiftRight_eq_div_pow]
      have hc1 : c.toNat ≤ 1 := by
        have h5 := a.toNat_lt
        have h6 : (c.toNat : Int) = (a.toNat : Int) / 128 := e2.symm
        omega
      have e3 : ((c.toNat : Nat) : Int) * 27 = ((m.toNat : Nat) : Int) := by
        rw [← hm, UInt8.toNat_mul, show (27 : UInt8).toNat = 27 from rfl]
        have : c.toNat * 27 % 2 ^ 8 = c.toNat * 27 := Nat.mod_eq_of_lt (by omega)
        rw [this]; simp
      have e3' : ((c.toNat : Nat) : Int) * 27 % 256 = ((m.toNat : Nat) : Int) := by
        rw [e3]; have := m.toNat_lt; omega
      have e4 := sum_xor8 s m
      rw [hn] at e4
      have e5 : ((b.toNat : Nat) : Int) / 2 = ((b2.toNat : Nat) : Int) := by rw [← hb2]; simp [UInt8.toNat_shiftRight, Nat.shiftRight_eq_div_pow]
      have e6 : bits .and .u8 ((b.toNat : Nat) : Int) 1 = ((bit.toNat : Nat) : Int) := by
        rw [← hbit]
        have h5 := u8_and_nat b.toNat 1 b.toNat_lt (by decide)
        rw [show ((1 : Nat) : Int) = 1 from rfl] at h5
        rw [h5]; simp
      have hlt : b2.toNat < 2 ^ g := by
        have h6 : (b2.toNat : Int) = (b.toNat : Int) / 2 := e5.symm
        rw [Nat.pow_succ] at hb
        omega
      rw [hs, hc, hm, hn, hb2] at hgo
      have HLT := Lib.hid hlt
      have hgo' := hgo
      rw [hbit] at hgo'
      clear hgo hb hs hc hm hn hb2 hbit hlt hb0
      by_cases h1 : bit = 1
      · rw [if_pos h1] at hgo'
        have h1i : ((bit.toNat : Nat) : Int) = 1 := by rw [h1]; rfl
        have e7 := sum_xor8 p a
        obtain ⟨q, hq⟩ : ∃ q, p ^^^ a = q := ⟨_, rfl⟩
        rw [hq] at e7 hgo'
        have HG := Lib.hid hgo'
        clear hgo' hq
        go_wp2_with fail
        go_roundg g
        case rel => exact ⟨n, b2, q, rfl, rfl, rfl, HLT.out, HG.out, HB⟩
        case measure => omega
      · rw [if_neg h1] at hgo'
        have h1i : ¬ ((bit.toNat : Nat) : Int) = 1 := fun h => h1 (UInt8.toNat_inj.1 (by show bit.toNat = 1; omega))
        have HG := Lib.hid hgo'
        clear hgo'
        go_wp2_with fail
        go_roundg g
        case rel => exact ⟨n, b2, p, rfl, rfl, rfl, HLT.out, HG.out, HB⟩
        case measure => omega
end Go.Proofs.Ytkblkdojmfgneaa

namespace Go.Proofs.Ytkblkdojmfgneaa
open Go.RowKit

set_option maxHeartbeats 4000000 in
set_option maxRecDepth 20000 in
theorem rot8_any (x : UInt8) (n : Nat) (w : World) (h1 : 1 ≤ n) (h2 : n ≤ 4) :
    Calls Try.prog 81 #[.int .u8 ((x.toNat : Nat) : Int), .int .i64 n] w fun e w' => e = .returned (.int .u8 (((rotl8 x n).toNat : Nat) : Int)) ∧ w' = w := by
  have hand : bits .and .u64 (n : Int) 7 = (n : Int) := by
    have h5 := u64_and_nat n 7 (by omega) (by decide)
    rw [show ((7 : Nat) : Int) = 7 from rfl] at h5
    rw [h5]
    congr 1
    have : n = 1 ∨ n = 2 ∨ n = 3 ∨ n = 4 := by omega
    rcases this with rfl | rfl | rfl | rfl <;> rfl
  obtain ⟨k, hk⟩ : ∃ k, 8 - n = k := ⟨_, rfl⟩
  have hki : (8 : Int) - n = (k : Int) := by omega
  have hn0 : (0 : Int) ≤ n := by omega
  have hn8 : (n : Int) < 8 := by omega
  have hk0 : (0 : Int) ≤ k := by omega
  have hk8 : (k : Int) < 8 := by omega
  have hx := x.toNat_lt
  have hval : bits .or .u8 (((x.toNat : Nat) : Int) * 2 ^ n % 256) (((x.toNat : Nat) : Int) / 2 ^ k) = (((rotl8 x n).toNat : Nat) : Int) := by
    have e1 : ((x.toNat : Nat) : Int) * 2 ^ n % 256 = (((UInt8.ofNat (x.toNat * 2 ^ n)).toNat : Nat) : Int) := by simp
    have e2 : ((x.toNat : Nat) : Int) / 2 ^ k = (((UInt8.ofNat (x.toNat / 2 ^ k)).toNat : Nat) : Int) := by
      rw [UInt8.toNat_ofNat', Nat.mod_eq_of_lt (Nat.lt_of_le_of_lt (Nat.div_le_self _ _) hx)]; simp
    rw [e1, e2, u8_or_nat _ _ (UInt8.toNat_lt _) (UInt8.toNat_lt _)]
    unfold rotl8
    rw [hk]; simp
  have HV := Lib.hid hval
  clear hval hk
  go_enter Try.func81, Try.ntmps81
  go_wp2_with fail
  go_ret
  exact ⟨by rw [← HV.out]; rfl, rfl⟩
theorem box_at (k : Nat) (h : k < 255) : timesL (pL.getD k 0) 3 = pL.getD (k + 1) 0 ∧ timesL (qL.getD k 0) 246 = qL.getD (k + 1) 0 ∧ affL (qL.getD (k + 1) 0) = sL.getD (k + 1) 0 ∧ (pL.getD (k + 1) 0 = 1 ↔ k = 254) := by
  have h5 := List.all_eq_true.1 box_steps k (List.mem_range.2 h)
  simp only [Bool.and_eq_true, beq_iff_eq] at h5
  obtain ⟨⟨⟨e1, e2⟩, e3⟩, e4⟩ := h5
  refine ⟨e1, e2, e3, ?_⟩
  constructor
  · intro h6
    rw [h6] at e4
    simpa using e4.symm
  · intro h6
    rw [h6] at e4 ⊢
    simpa using e4
theorem boxGo_len : ∀ k, (boxGo k).length = 256
  | 0 => by rw [boxGo, List.length_set, List.length_replicate]
  | k + 1 => by rw [boxGo, List.length_set, boxGo_len k]
/-- c, so many of the turned ones added. -/
def affGo8 (q : UInt8) : Nat → UInt8
  | 0 => q
  | n + 1 => affGo8 q n ^^^ rotl8 q (n + 1)
theorem affGo8_all (q : UInt8) : affGo8 q 4 ^^^ 99 = affL q := rfl
theorem bytes_set (l : List UInt8) (i : Nat) (c : UInt8) : ((l.map bval).toArray).setIfInBounds i (bval c) = ((l.set i c).map bval).toArray := by
  rw [List.setIfInBounds_toArray, List.map_set]
theorem bytes_get (l : List UInt8) (i : Nat) (h : i < l.length) : ((l.map bval).toArray)[i]? = some (bval (l.getD i 0)) := by
  rw [List.getElem?_toArray, List.getElem?_map, List.getD_eq_getElem?_getD, List.getElem?_eq_getElem h]; rfl
theorem bytes_one (l : List UInt8) : ((l.map bval).toArray).all (·.oneCell') = true := all_oneCell_toArray (fun v hv => by
  obtain ⟨n, _, rfl⟩ := List.mem_map.1 hv; rfl)
end Go.Proofs.Ytkblkdojmfgneaa

namespace Go.Proofs.Ytkblkdojmfgneaa
open Go.RowKit

theorem zero27 : (Try.zeroCells27) = ((List.replicate 256 (0 : UInt8)).map bval).toArray := by kernel_rfl
set_option maxHeartbeats 8000000 in
set_option maxRecDepth 20000 in
theorem box_any (w : World) : Calls Try.prog 49 #[] w fun e w' => e = .returned (.agg (boxL.map bval).toArray) ∧ Below w.heap.size w w' := by
  have hz := zero27
  go_enter Try.func49, Try.ntmps49
  go_wp2_with fail
  go_step3
  go_upto_region 2 with fail
  refine wp_absQ (fun W => Below w.heap.size w W ∧ Blk W w.heap.size ((List.replicate 256 (0 : UInt8)).map bval).toArray 27 ∧ Blk W (w.heap.size + 1) ((List.replicate 256 (0 : UInt8)).map bval).toArray 27) ⟨by (repeat (first | (with_reducible assumption) | (with_reducible exact Below.refl _ _) | with_reducible apply bl_drewN | with_reducible apply Below.drew | (with_reducible apply bl_alloc; focus (first | (simp; done) | (simp; omega) | omega)) | (with_reducible apply bl_set; focus (first | (simp; done) | (simp; omega) | omega)))), ?_, ?_⟩ (fun W1 V1 => ?_)
  · rw [← hz]; exact Blk.alloc (Blk.new _ _ _)
  · rw [← hz]; exact Blk.new' (by simp)
  obtain ⟨HB1, Z1, B1⟩ := V1
  have c1 := B1.cell 0
  rw [bytes_get _ 0 (by simp)] at c1
  have f1 := B1.frozen 0
  have l1 := B1.lt
  have B2 := B1.set (o := 0) (v := bval 99)
  rw [bytes_set] at B2
  have Z2 : Blk (W1.setCell ⟨w.heap.size + 1, 0, none⟩ (bval 99)) w.heap.size ((List.replicate 256 (0 : UInt8)).map bval).toArray 27 := Z1.set_ne (by simp)
  have HB2 := HB1.setCell (p := ⟨w.heap.size + 1, 0, none⟩) (by show w.heap.size ≤ w.heap.size + 1; omega) (bval 99)
  go_upto_region 3 with fail
  refine wp_absQ (fun W => Below w.heap.size w W ∧ Blk W w.heap.size ((List.replicate 256 (0 : UInt8)).map bval).toArray 27 ∧ Blk W (w.heap.size + 1) ((boxGo 0).map bval).toArray 27) ⟨HB2, Z2, B2⟩ (fun W3 V3 => ?_)
  obtain ⟨HB3, Z3, B3⟩ := V3
  clear HB1 Z1 B1 c1 f1 l1 B2 Z2 HB2
  go_wp2_with fail
  go_step3
  go_wp2_with fail
  go_loopg [2, 3] 255 (fun gk t2 t3 wr => ∃ k : Nat, k + gk = 255 ∧ t2 = .int .u8 (((pL.getD k 0).toNat : Nat) : Int) ∧ t3 = .int .u8 (((qL.getD k 0).toNat : Nat) : Int) ∧ k < 255 ∧ Below w.heap.size w wr ∧ Blk wr w.heap.size ((List.replicate 256 (0 : UInt8)).map bval).toArray 27 ∧ Blk wr (w.heap.size + 1) ((boxGo k).map bval).toArray 27)
  case atStart => exact ⟨0, rfl, rfl, rfl, by omega, HB3, Z3, B3⟩
  case round =>
    clear HB3 Z3 B3
    obtain ⟨k, hkg, rfl, rfl, hk, HB, Z, B⟩ := hrel
    obtain ⟨g, rfl⟩ : ∃ g, gk = g + 1 := ⟨gk - 1, by omega⟩
    obtain ⟨e1, e2, e3, e4⟩ := box_at k hk
    have hbg : boxGo (k + 1) = (boxGo k).set (pL.getD (k + 1) 0).toNat (sL.getD (k + 1) 0) := rfl
    have hlen := boxGo_len k
    obtain ⟨p, hp⟩ : ∃ p, pL.getD k 0 = p := ⟨_, rfl⟩
    obtain ⟨q, hq⟩ : ∃ p, qL.getD k 0 = p := ⟨_, rfl⟩
    obtain ⟨p2, hp2⟩ : ∃ p, pL.getD (k + 1) 0 = p := ⟨_, rfl⟩
    obtain ⟨q2, hq2⟩ : ∃ p, qL.getD (k + 1) 0 = p := ⟨_, rfl⟩
    obtain ⟨sv, hsv⟩ : ∃ p, sL.getD (k + 1) 0 = p := ⟨_, rfl⟩
    rw [hp, hp2] at e1; rw [hq, hq2] at e2; rw [hq2, hsv] at e3; rw [hp2] at e4; rw [hp2, hsv] at hbg
    rw [hp, hq]
    have ht1 := fun W => times_any p 3 W
    have ht2 := fun W => times_any q 246 W
    rw [e1, show (((3 : UInt8).toNat : Nat) : Int) = 3 from rfl] at ht1
    rw [e2, show (((246 : UInt8).toNat : Nat) : Int) = 246 from rfl] at ht2
    have HT1 := Lib.hid ht1; have HT2 := Lib.hid ht2; have HK := Lib.hid hkg; have HP2 := Lib.hid hp2; have HQ2 := Lib.hid hq2; have HBG := Lib.hid hbg; have HLEN := Lib.hid hlen
    have HBs := HB.size
    clear ht1 ht2 hkg hp2 hq2 hbg hlen e1 e2 hp hq hsv
    go_wp2_with fail
    refine (HT1.out _).mono ?_
    rintro e W4 ⟨rfl, hb⟩
    have HB4 := Below.thn HB hb HBs
    have Z4 := Z.below hb; have B4 := B.below hb
    have HB4s := HB4.size
    clear hb HB Z B HBs
    go_wp2_with fail
    refine (HT2.out _).mono ?_
    rintro e W5 ⟨rfl, hb⟩
    have HB5 := Below.thn HB4 hb HB4s
    have Z5 := Z4.below hb; have B5 := B4.below hb
    clear hb HB4 Z4 B4 HB4s
    go_wp2_with fail
    go_loopg [4, 5] 4 (fun g2 t4 t5 wr => ∃ i : Nat, i + g2 = 4 ∧ t4 = .int .u8 (((affGo8 q2 i).toNat : Nat) : Int) ∧ t5 = .int .i64 ((i + 1 : Nat) : Int) ∧ wr = W5)
    case atStart => exact ⟨0, rfl, rfl, rfl, rfl⟩
    case round =>
      obtain ⟨i, hi, rfl, rfl, hwr⟩ := hrel
      subst hwr
      cases gk with
      | zero =>
        obtain rfl : i = 4 := by omega
        have hn : ¬ (((4 + 1 : Nat) : Int) ≤ 4) := by omega
        have hx := sum_xor8 (affGo8 q2 4) 99
        rw [affGo8_all, e3, show (((99 : UInt8).toNat : Nat) : Int) = 99 from rfl] at hx
        obtain ⟨cc, hcc⟩ : ∃ c, affGo8 q2 4 = c := ⟨_, rfl⟩
        rw [hcc] at hx ⊢
        have hpl : p2.toNat < (boxGo k).length := by rw [HLEN.out]; exact p2.toNat_lt
        have c5 := B5.cell p2.toNat
        rw [bytes_get _ _ hpl] at c5
        have f5 := B5.frozen p2.toNat
        have l5 := B5.lt
        have B6 := B5.set (o := p2.toNat) (v := bval sv)
        rw [bytes_set, ← HBG.out] at B6
        have Z6 := Z5.set_ne (a := ⟨w.heap.size + 1, p2.toNat, none⟩) (v := bval sv) (by simp)
        have HB6 := HB5.setCell (p := ⟨w.heap.size + 1, p2.toNat, none⟩) (by show w.heap.size ≤ w.heap.size + 1; omega) (bval sv)
        have hp256 : ((p2.toNat : Nat) : Int) < 256 := by have := p2.toNat_lt; omega
        clear hi hn
        go_upto_region 12 with fail
        refine wp_absQ (fun W => Below w.heap.size w W ∧ Blk W w.heap.size ((List.replicate 256 (0 : UInt8)).map bval).toArray 27 ∧ Blk W (w.heap.size + 1) ((boxGo (k + 1)).map bval).toArray 27) ⟨HB6, Z6, B6⟩ (fun W7 V7 => ?_)
        obtain ⟨HB7, Z7, B7⟩ := V7
        clear B5 Z5 HB5 c5 f5 l5 B6 Z6 HB6 hx
        by_cases h1 : p2 = 1
        · have hk254 : k = 254 := e4.1 h1
          have h1i : ((p2.toNat : Nat) : Int) = 1 := by rw [h1]; rfl
          have hb255 : boxGo (k + 1) = boxL := by rw [hk254]; exact box_all
          rw [hb255] at B7
          have hbs : (boxL.map bval).toArray.size = 256 := by rw [List.size_toArray, List.length_map, boxL_len]
          have hzs : ((List.replicate 256 (0 : UInt8)).map bval).toArray.size = 256 := by simp
          have hone := bytes_one boxL
          obtain ⟨BX, hBX⟩ : ∃ B, (boxL.map bval).toArray = B := ⟨_, rfl⟩
          rw [hBX] at hbs hone B7
          clear hb255 hk254
          go_wp2_with (first | (refine wpList_load_row rfl 27 _ rfl (w.heap.size + 1) rfl 27 _ (0, 0) _ B7.out Try.underlying27 rfl (by rw [hbs]; kernel_rfl) ?_) | (refine wpList_put rfl 27 _ _ rfl w.heap.size _ _ 27 rfl rfl Z7 (by rw [hbs]; kernel_rfl) (hbs.trans hzs.symm) hone (fun W9 hp9 B9 => ?_)))
          all_goals
            first
            | (simp only [Exit.noGoto]; refine bodyPost_ret (v := .agg BX) ?_ rfl ⟨by rw [hBX], hp9.below (Nat.le_refl _) HB7⟩; exact results_cell_row (Try.results49) _ _ w.heap.size 27 _ (0, 0) _ rfl B9.out Try.underlying27 rfl (by rw [hbs]; kernel_rfl))
            | skip
        · have hk254 : k ≠ 254 := fun h => h1 (e4.2 h)
          have h1i : ¬ ((p2.toNat : Nat) : Int) = 1 := fun h => h1 (UInt8.toNat_inj.1 (by show p2.toNat = 1; omega))
          go_wp2_with fail
          go_roundg g
          case rel => exact ⟨k + 1, by have := HK.out; omega, by rw [HP2.out], by rw [HQ2.out], by omega, HB7, Z7, B7⟩
          case measure => omega
      | succ g2 =>
        have hn : (((i + 1 : Nat) : Int) ≤ 4) := by omega
        obtain ⟨j, hj⟩ : ∃ j, i + 1 = j := ⟨_, rfl⟩
        rw [hj] at hn ⊢
        have hr := fun W => rot8_any q2 j W (by omega) (by omega)
        have hx := sum_xor8 (affGo8 q2 i) (rotl8 q2 j)
        have hnx : affGo8 q2 i ^^^ rotl8 q2 j = affGo8 q2 j := by rw [← hj]; rfl
        rw [hnx] at hx
        obtain ⟨r, hr'⟩ : ∃ r, rotl8 q2 j = r := ⟨_, rfl⟩
        obtain ⟨c1, hc1⟩ : ∃ r, affGo8 q2 i = r := ⟨_, rfl⟩
        obtain ⟨c2, hc2⟩ : ∃ r, affGo8 q2 j = r := ⟨_, rfl⟩
        rw [hr'] at hr hx; rw [hc1, hc2] at hx; rw [hc1]
        have HR := Lib.hid hr; have HC2 := Lib.hid hc2; have HJ := Lib.hid hj; have HI := Lib.hid hi
        have hj4 : j ≤ 4 := by omega
        clear hr hnx hr' hc1 hc2 hj hi
        go_wp2_with fail
        refine (HR.out _).mono ?_
        rintro e W6 ⟨rfl, rfl⟩
        go_wp2_with fail
        go_roundg g2
        case rel => exact ⟨j, by have := HI.out; have := HJ.out; omega, by rw [HC2.out], by simp, rfl⟩
        case measure => omega
end Go.Proofs.Ytkblkdojmfgneaa

namespace Go.Proofs.Ytkblkdojmfgneaa
open Go.RowKit

/-- A key's cells. -/
def kcells (ws : List UInt8) : List Value := .bool true :: (ws ++ boxL).map bval
theorem kcells_len (ws : List UInt8) (h : ws.length = 176) : (kcells ws).length = 433 := by
  simp [kcells, h, boxL_len]
theorem kcells_one (ws : List UInt8) : ((kcells ws).toArray).all (·.oneCell') = true := all_oneCell_toArray (fun v hv => by
  rcases List.mem_cons.1 hv with rfl | hv
  · rfl
  · obtain ⟨n, _, rfl⟩ := List.mem_map.1 hv; rfl)
theorem build_key : Array.foldl (fun cs (x : Value × Nat) => cs.setIfInBounds (177 + x.2) x.1) (Try.zeroCells29.setIfInBounds 0 (Value.bool true)) ((boxL.map bval).toArray).zipIdx 0 ((boxL.map bval).toArray).size = (kcells (List.replicate 176 0)).toArray := by kernel_rfl
theorem nextK_get (l : List UInt8) (t : UInt8) (i : Nat) (h : i < 16) : (nextK l t).getD i 0 =
    if i = 0 then l.getD 0 0 ^^^ subL (l.getD 13 0) ^^^ t else if i < 4 then l.getD i 0 ^^^ subL (l.getD (12 + (i + 1) % 4) 0) else l.getD i 0 ^^^ (nextK l t).getD (i - 4) 0 := by
  have : i = 0 ∨ i = 1 ∨ i = 2 ∨ i = 3 ∨ i = 4 ∨ i = 5 ∨ i = 6 ∨ i = 7 ∨ i = 8 ∨ i = 9 ∨ i = 10 ∨ i = 11 ∨ i = 12 ∨ i = 13 ∨ i = 14 ∨ i = 15 := by omega
  rcases this with rfl | rfl | rfl | rfl | rfl | rfl | rfl | rfl | rfl | rfl | rfl | rfl | rfl | rfl | rfl | rfl <;> rfl
theorem kcells_put (ws vs : List UInt8) (o : Nat) (h : o + vs.length ≤ ws.length) : (kcells ws).take (1 + o) ++ vs.map bval ++ (kcells ws).drop (1 + o + (vs.map bval).length) = kcells (ws.take o ++ vs ++ ws.drop (o + vs.length)) := by
  unfold kcells
  rw [List.length_map, Nat.add_comm 1 o, List.take_succ_cons, show o + 1 + vs.length = (o + vs.length) + 1 by omega, List.drop_succ_cons, ← List.map_take, ← List.map_drop, List.take_append_of_le_length (by omega), List.drop_append_of_le_length (by omega)]
  simp
theorem kcells_get (ws : List UInt8) (o : Nat) (h : o < ws.length) : (kcells ws).toArray[1 + o]? = some (bval (ws.getD o 0)) := by
  unfold kcells
  rw [List.getElem?_toArray, Nat.add_comm 1 o, List.getElem?_cons_succ, List.getElem?_map, List.getElem?_append_left h, List.getD_eq_getElem?_getD, List.getElem?_eq_getElem h]; rfl
theorem kcells_box (ws : List UInt8) (o : Nat) (hw : ws.length = 176) (h : o < 256) : (kcells ws).toArray[177 + o]? = some (bval (boxL.getD o 0)) := by
  unfold kcells
  rw [List.getElem?_toArray, show 177 + o = (176 + o) + 1 by omega, List.getElem?_cons_succ, List.getElem?_map, List.getElem?_append_right (by omega), hw, Nat.add_sub_cancel_left, List.getD_eq_getElem?_getD, List.getElem?_eq_getElem (by rw [boxL_len]; exact h)]; rfl
/-- A whole array read, in a region that draws. -/
theorem rel_load_mid {P : Program} {o : Oper} {a : Act} {w : World} {post : Value → World → Prop} (ty : TypeId) (x : Operand) (ho : o.op = .load ty x)
    (b off : Nat) (hx : a.eval x = .pointer (some ⟨b, off, none⟩)) (cs : List Value) (d : TypeDesc) (hc : w.rangeAt b off cs)
    (hu : P.underlying ty = some d) (hd : d.isRow = true) (hi : (P.info? ty).map (·.size) = some cs.length) (h : post (.agg cs.toArray) w) : relAt P o a w post := by
  unfold relAt execOp
  simp only [ho, hx, Instr.loadAt, Instr.sureAddr, Sem.run_bind, Sem.run_pure, Result.andThen_ok, run_loadVar_mid w b off ty cs d hc hu hd hi]
  exact h
theorem pure_load_mid {P : Program} {o : Oper} {a : Act} {w : World} (ty : TypeId) (x : Operand) (ho : o.op = .load ty x)
    (b off : Nat) (hx : a.eval x = .pointer (some ⟨b, off, none⟩)) (cs : List Value) (d : TypeDesc) (hc : w.rangeAt b off cs)
    (hu : P.underlying ty = some d) (hd : d.isRow = true) (hi : (P.info? ty).map (·.size) = some cs.length) : pureAt P o a w (.agg cs.toArray) := by
  unfold pureAt execOp
  simp only [ho, hx, Instr.loadAt, Instr.sureAddr, Sem.run_bind, Sem.run_pure, Result.andThen_ok, run_loadVar_mid w b off ty cs d hc hu hd hi]
  exact ⟨rfl, rfl⟩
def z16 : Array Value := #[.int .u8 0, .int .u8 0, .int .u8 0, .int .u8 0, .int .u8 0, .int .u8 0, .int .u8 0, .int .u8 0, .int .u8 0, .int .u8 0, .int .u8 0, .int .u8 0, .int .u8 0, .int .u8 0, .int .u8 0, .int .u8 0]
/-- The round keys, up to the r-th. -/
def keysN (key : List UInt8) : Nat → List UInt8
  | 0 => key
  | r + 1 => keysN key r ++ keyR key (r + 1)
theorem keysN_len (key : List UInt8) (h : key.length = 16) : ∀ r, (keysN key r).length = 16 * (r + 1)
  | 0 => h
  | r + 1 => by rw [keysN, List.length_append, keysN_len key h r, keyR_len key h]; omega
theorem keysN_get (key : List UInt8) (h : key.length = 16) (n j : Nat) (hj : j < 16) : ∀ r, n ≤ r → (keysN key r).getD (16 * n + j) 0 = (keyR key n).getD j 0
  | 0, hn => by
    obtain rfl : n = 0 := by omega
    rw [Nat.mul_zero, Nat.zero_add]; rfl
  | r + 1, hn => by
    have hl := keysN_len key h r
    by_cases e : n = r + 1
    · subst e
      rw [keysN, List.getD_eq_getElem?_getD, List.getD_eq_getElem?_getD, List.getElem?_append_right (by omega), hl, Nat.add_sub_cancel_left]
    · have := keysN_get key h n j hj r (by omega)
      rw [keysN, ← this, List.getD_eq_getElem?_getD, List.getD_eq_getElem?_getD, List.getElem?_append_left (by omega)]
/-- The words of a key that is being made: so many round keys behind the first, and so many bytes of the next. -/
structure KW (key ws : List UInt8) (r i : Nat) : Prop where
  len : ws.length = 176
  pre : ws.take (16 * (r + 1) + i) = keysN key r ++ (keyR key (r + 1)).take i
theorem take_get {l m : List UInt8} {n k : Nat} (h : l.take n = m) (hk : k < n) : l.getD k 0 = m.getD k 0 := by
  rw [← h, List.getD_eq_getElem?_getD, List.getD_eq_getElem?_getD, List.getElem?_take_of_lt hk]
theorem KW.old {key ws : List UInt8} {r i n j : Nat} (h : KW key ws r i) (hk : key.length = 16) (hn : n ≤ r) (hj : j < 16) : ws.getD (16 * n + j) 0 = (keyR key n).getD j 0 := by
  have hl := keysN_len key hk r
  rw [take_get h.pre (by omega), List.getD_eq_getElem?_getD, List.getElem?_append_left (by omega), ← List.getD_eq_getElem?_getD, keysN_get key hk n j hj r hn]
theorem KW.new {key ws : List UInt8} {r i j : Nat} (h : KW key ws r i) (hk : key.length = 16) (hj : j < i) (hi : i ≤ 16) : ws.getD (16 * (r + 1) + j) 0 = (keyR key (r + 1)).getD j 0 := by
  have hl := keysN_len key hk r
  have hl2 := keyR_len key hk (r + 1)
  rw [take_get h.pre (by omega), List.getD_eq_getElem?_getD, List.getElem?_append_right (by omega), hl, Nat.add_sub_cancel_left, List.getElem?_take_of_lt hj, ← List.getD_eq_getElem?_getD]
theorem KW.set {key ws : List UInt8} {r i : Nat} (h : KW key ws r i) (hk : key.length = 16) (hi : i < 16) (hr : r < 10) : KW key (ws.set (16 * (r + 1) + i) ((keyR key (r + 1)).getD i 0)) r (i + 1) := by
  have hl2 := keyR_len key hk (r + 1)
  have hws := h.len
  refine ⟨by rw [List.length_set]; exact h.len, ?_⟩
  rw [show 16 * (r + 1) + (i + 1) = (16 * (r + 1) + i) + 1 by omega, List.take_add_one, List.take_set_of_le (Nat.le_refl _), h.pre, List.getElem?_set_self (by omega), List.append_assoc]
  congr 1
  rw [List.take_add_one, List.getD_eq_getElem?_getD, List.getElem?_eq_getElem (by omega : i < (keyR key (r + 1)).length)]
  rfl
theorem KW.next {key ws : List UInt8} {r : Nat} (h : KW key ws r 16) (hk : key.length = 16) : KW key ws (r + 1) 0 := by
  have hl2 := keyR_len key hk (r + 1)
  refine ⟨h.len, ?_⟩
  rw [Nat.add_zero, List.take_zero, List.append_nil, keysN, show 16 * (r + 1 + 1) = 16 * (r + 1) + 16 by omega, h.pre, List.take_of_length_le (by omega : (keyR key (r + 1)).length ≤ 16)]
theorem KW.all {key ws : List UInt8} (h : KW key ws 10 0) : ws = keysN key 10 := by
  have := h.pre
  rw [List.take_of_length_le (by rw [h.len]; omega), List.take_zero, List.append_nil] at this
  exact this
theorem kcells_set (ws : List UInt8) (o : Nat) (c : UInt8) (h : o < ws.length) : ((kcells ws).toArray).setIfInBounds (1 + o) (bval c) = (kcells (ws.set o c)).toArray := by
  unfold kcells
  rw [List.setIfInBounds_toArray, Nat.add_comm 1 o, List.set_cons_succ, List.map_append, List.set_append_left _ _ (by rw [List.length_map]; exact h), ← List.map_set, List.map_append]
theorem results_cell_tmp {P : Program} {fn : Func} {p q : Tmp} {ty : TypeId} (h : fn.results = #[.cell p ty, .tmp q]) (tmps : Array Value) (w : World) (g : Nat) (t : TypeId) (cs : Array Value) (fr : Nat × Nat) (d : TypeDesc) (v : Value)
    (hp : tmps.getD p undef = .pointer (some ⟨g, 0, none⟩)) (hq : tmps.getD q undef = v) (hg : w.heap[g]? = some (.cells cs t fr))
    (hu : P.underlying ty = some d) (hd : (match d with | .struct _ | .array _ _ => true | _ => false) = true) (hi : (P.info? ty).map (·.size) = some cs.size) :
    (results fn tmps).run P w = .ok (.tuple #[.agg cs, v]) w := by
  have hp' : tmps[p]?.getD undef = .pointer (some ⟨g, 0, none⟩) := by simpa using hp
  have hq' : tmps[q]?.getD undef = v := by simpa using hq
  simp [results, h, hp', hq', asAddr, run_loadVar_row w g t ty cs fr d hg hu hd hi]
end Go.Proofs.Ytkblkdojmfgneaa

namespace Go.Proofs.Ytkblkdojmfgneaa
open Go.RowKit

/-- Memory, in a round. -/
structure NAt (w wx : World) (b bl : Nat) (ws : List UInt8) (LA : Array Value) : Prop where
  HB : Below w.heap.size w wx
  Z : Blk wx w.heap.size Try.zeroCells29 29
  B : Blk wx b (kcells ws).toArray 29
  BL : Blk wx bl LA 25
  hb : w.heap.size < b
  hl : b < bl
theorem NAt.gr {w wx wy : World} {b bl : Nat} {ws : List UInt8} {LA : Array Value} (h : NAt w wx b bl ws LA) (g : Gr wx wy) : NAt w wy b bl ws LA :=
  ⟨Below.thn h.HB g.out h.HB.size, h.Z.gr g, h.B.gr g, h.BL.gr g, h.hb, h.hl⟩
theorem NAt.set {w wx : World} {b bl : Nat} {ws : List UInt8} {LA : Array Value} (h : NAt w wx b bl ws LA) (o : Nat) (c : UInt8) (ho : o < ws.length) : NAt w (wx.setCell ⟨b, 1 + o, none⟩ (bval c)) b bl (ws.set o c) LA :=
  have h1 := h.hb
  have h2 := h.hl
  ⟨h.HB.setCell (p := ⟨b, 1 + o, none⟩) (by show w.heap.size ≤ b; omega) _, h.Z.set_ne (by show w.heap.size ≠ b; omega), by rw [← kcells_set ws o c ho]; exact h.B.set, h.BL.set_ne (by show bl ≠ b; omega), h.hb, h.hl⟩
set_option maxHeartbeats 8000000 in
set_option maxRecDepth 20000 in
theorem new_any (key : ByteArray) (w : World) (hk : key.size = 16) : Calls Try.prog 15 #[.string key] w fun e w' => e = .returned (.tuple #[.agg (kcells (keysN key.data.toList 10)).toArray, .int .i64 0]) ∧ Below w.heap.size w w' := by
  have hki : (key.size : Int) = 16 := by omega
  go_enter Try.func15, Try.ntmps15
  go_wp2_with fail
  refine (box_any _).mono ?_
  rintro e W1 ⟨rfl, hb⟩
  have hbs : (boxL.map bval).toArray.size = 256 := by rw [List.size_toArray, List.length_map, boxL_len]
  have hbk := build_key
  obtain ⟨BX, hBX⟩ : ∃ B, (boxL.map bval).toArray = B := ⟨_, rfl⟩
  rw [hBX] at hbs hbk
  rw [hBX]
  have HB1 : Below w.heap.size w W1 := Below.thn (by (repeat (first | (with_reducible assumption) | (with_reducible exact Below.refl _ _) | with_reducible apply bl_drewN | with_reducible apply Below.drew | (with_reducible apply bl_alloc; focus (first | (simp; done) | (simp; omega) | omega)) | (with_reducible apply bl_set; focus (first | (simp; done) | (simp; omega) | omega))))) hb
  have HB1s := HB1.size
  have Z1 : Blk W1 w.heap.size Try.zeroCells29 29 := Blk.below (by (repeat (first | (with_reducible assumption) | (with_reducible apply Blk.new'; (first | (with_reducible rfl) | (simp; done))) | with_reducible apply Blk.alloc | with_reducible apply Blk.set | ((with_reducible apply Blk.set_ne); focus (first | (simp; done) | (simp; omega))) | with_reducible apply Blk.drewN | with_reducible apply Blk.drew))) hb
  clear hb
  have hks : (kcells (List.replicate 176 0)).toArray.size = 433 := by rw [List.size_toArray, kcells_len _ (by simp)]
  have hone := kcells_one (List.replicate 176 0)
  obtain ⟨K0, hK0⟩ : ∃ K, (kcells (List.replicate 176 0)).toArray = K := ⟨_, rfl⟩
  rw [hK0, hbs] at hbk
  rw [hK0] at hks hone
  go_upto_region 4 with (refine wpList_put rfl 29 _ _ rfl W1.heap.size _ _ 29 rfl rfl (by (repeat (first | (with_reducible assumption) | (with_reducible apply Blk.new'; (first | (with_reducible rfl) | (simp; done))) | with_reducible apply Blk.alloc | with_reducible apply Blk.set | ((with_reducible apply Blk.set_ne); focus (first | (simp; done) | (simp; omega))) | with_reducible apply Blk.drewN | with_reducible apply Blk.drew))) (by rw [hks]; kernel_rfl) (hks.trans (by kernel_rfl)) hone (fun W2 hp2 B2 => ?_))
  rw [← hK0] at B2
  have HB2 : Below w.heap.size w W2 := hp2.below (by omega) (by (repeat (first | (with_reducible assumption) | (with_reducible exact Below.refl _ _) | with_reducible apply bl_drewN | with_reducible apply Below.drew | (with_reducible apply bl_alloc; focus (first | (simp; done) | (simp; omega) | omega)) | (with_reducible apply bl_set; focus (first | (simp; done) | (simp; omega) | omega)))))
  have hz1 := Z1.lt
  have Z2 : Blk W2 w.heap.size Try.zeroCells29 29 := hp2.blk (by omega) (Blk.alloc Z1)
  clear hp2 hK0 hbk hone hks Z1 HB1
  obtain ⟨b, hb⟩ : ∃ b, W1.heap.size = b := ⟨_, rfl⟩
  rw [hb] at B2 HB1s hz1 ⊢
  clear hb
  have hkl : key.data.toList.length = key.size := rfl
  have hcs := run_copy_string (P := Try.prog) W2 36 9 3 5 b 1 16 16 key Try.underlying36 Try.sizeOf5 (by omega)
    (fun j hj => by rw [B2.cell, kcells_get _ j (by simp; omega)]; rfl)
    (fun j _ => B2.frozen _)
  have hmap : (key.data.toList.map fun c => Value.int .u8 (c.toNat : Int)) = key.data.toList.map bval := rfl
  rw [hmap] at hcs
  have hkl2 : (key.data.toList.map bval).length = 16 := by rw [List.length_map, hkl, hk]
  have B3 := setCells_blk2 b 29 (key.data.toList.map bval) 1 W2 _ B2 (by rw [hkl2, kcells_len _ (by simp)]; omega)
  obtain ⟨h1, h2, h3, h4, h5⟩ := setCells_os b (key.data.toList.map bval) 1 W2
  have hp3 : Put b W2 (W2.setCells b 1 (key.data.toList.map bval)) := ⟨h1, h2, h3, h4, h5⟩
  have Z3 := hp3.blk (q := w.heap.size) (by omega) Z2
  have HB3 := hp3.below (by omega) HB2
  obtain ⟨W3, hW3⟩ : ∃ W3, W2.setCells b 1 (key.data.toList.map bval) = W3 := ⟨_, rfl⟩
  rw [hW3] at hcs B3 Z3 HB3
  clear hp3 h1 h2 h3 h4 h5 hW3 hmap B2 Z2 HB2
  obtain ⟨KEY, hKEY⟩ : ∃ K, key.data.toList = K := ⟨_, rfl⟩
  have hKl : KEY.length = 16 := by rw [← hKEY, hkl, hk]
  have hks3 : ((kcells (List.replicate 176 0)).take 1 ++ key.data.toList.map bval ++ (kcells (List.replicate 176 0)).drop (1 + (key.data.toList.map bval).length)).toArray = (kcells (KEY ++ List.replicate 160 0)).toArray := by
    have := kcells_put (List.replicate 176 0) KEY 0 (by rw [hKl]; simp)
    rw [Nat.add_zero, Nat.zero_add, List.take_zero, List.nil_append, hKl, List.drop_replicate] at this
    rw [hKEY, this]
  have KW0 : KW KEY (KEY ++ List.replicate 160 0) 0 0 := ⟨by simp [hKl], by rw [Nat.add_zero, List.take_append_of_le_length (by omega), List.take_of_length_le (by omega)]; simp [keysN]⟩
  rw [hks3] at B3
  have hbw : w.heap.size < b := by have := Z3.lt; omega
  have HKE := Lib.hid hKEY; have HKL := Lib.hid hKl
  clear hks3 hKEY hkl hkl2 hki hbs hKl
  go_wp2_with fail
  go_loopg [5, 6] 10 (fun gk t5 t6 wr => ∃ (r r1 : Nat) (ws : List UInt8), r1 = r + 1 ∧ r + gk = 10 ∧ t5 = .int .u8 (((turnL r).toNat : Nat) : Int) ∧ t6 = .int .i64 (r1 : Int) ∧ Below w.heap.size w wr ∧ Blk wr w.heap.size Try.zeroCells29 29 ∧ Blk wr b (kcells ws).toArray 29 ∧ KW KEY ws r 0)
  case atStart => exact ⟨0, 1, _, rfl, rfl, rfl, rfl, HB3, Z3, B3, KW0⟩
  case round =>
    clear HB3 Z3 B3 KW0 hcs
    obtain ⟨r, r1, ws, hr1, hrg, rfl, rfl, HB, Z, B, KWr⟩ := hrel
    cases gk with
    | zero =>
      obtain rfl : r = 10 := by omega
      subst hr1
      clear hrg
      have hall : (kcells ws).toArray = (kcells (keysN KEY 10)).toArray := by rw [KWr.all]
      rw [hall] at B
      have hlen := keysN_len KEY HKL.out 10
      have hks := by have := kcells_len (keysN KEY 10) hlen; exact this
      have hone := kcells_one (keysN KEY 10)
      obtain ⟨KF, hKF⟩ : ∃ K, (kcells (keysN KEY 10)).toArray = K := ⟨_, rfl⟩
      have hKs : KF.size = 433 := by rw [← hKF, List.size_toArray, hks]
      rw [hKF] at B hone
      have HKF := Lib.hid hKF
      have hzs : Try.zeroCells29.size = 433 := by kernel_rfl
      clear hall hlen hks hKF KWr
      have hx11 : ¬ (((10 + 1 : Nat)) : Int) ≤ 10 := by omega
      go_wp2_with (first | (refine wpList_load_row rfl 29 _ rfl b rfl 29 _ (0, 0) _ B.out Try.underlying29 rfl (by rw [hKs]; kernel_rfl) ?_) | (refine wpList_put rfl 29 _ _ rfl w.heap.size _ _ 29 rfl rfl Z (by rw [hKs]; kernel_rfl) (hKs.trans hzs.symm) hone (fun W9 hp9 B9 => ?_)))
      all_goals
        first
        | (refine bodyPost_ret (v := .tuple #[.agg KF, .int .i64 0]) ?_ rfl ⟨by rw [← HKF.out, ← HKE.out], hp9.below (Nat.le_refl _) HB⟩; exact results_cell_tmp (Try.results15) _ _ w.heap.size 29 _ (0, 0) _ _ rfl rfl B9.out Try.underlying29 rfl (by rw [hKs]; kernel_rfl))
        | skip
    | succ g =>
      have hr10 : (r1 : Int) ≤ 10 := by omega
      have hrm : (r1 : Int) - 1 = (r : Int) := by omega
      have hrlt : (r : Int) < 11 := by omega
      have hr1lt : (r1 : Int) < 11 := by omega
      obtain ⟨LV, hLV⟩ : ∃ L, ((keyR KEY r).map bval) = L := ⟨_, rfl⟩
      have hLVl : LV.length = 16 := by rw [← hLV, List.length_map, keyR_len KEY HKL.out]
      have hrange : ∀ wq, Blk wq b (kcells ws).toArray 29 → wq.rangeAt b (1 + r * 16) LV := fun wq Bq j v hv => by
        have hj : j < 16 := by have := (List.getElem?_eq_some_iff.1 hv).1; omega
        rw [Bq.cell, Nat.add_assoc, kcells_get ws _ (by rw [KWr.len]; omega), Nat.mul_comm r 16, KWr.old HKL.out (Nat.le_refl _) hj, ← hv, ← hLV, List.getElem?_map, List.getD_eq_getElem?_getD, List.getElem?_eq_getElem (by rw [keyR_len KEY HKL.out]; exact hj)]; rfl
      have HRA := Lib.hid hrange; have HR1 := Lib.hid hr1; have HRG := Lib.hid hrg; have HLV := Lib.hid hLV; have HLVL := Lib.hid hLVl
      clear hrange hr1 hrg hLV hLVl
      go_wp2_with fail
      refine wp_region_typed 9 (fun k => match k with  | _ => []) (fun k => match k with | 5 => true | 6 => true | 7 => true | _ => false) (fun k => match k with | 4 => some ⟨(Unit), (()), (fun _ => .agg LV.toArray), (fun _ _ => True), (fun _ _ _ h _ => h)⟩ | 8 => some ⟨(Nat), (0), (fun b => .pointer (some ⟨b, 0, none⟩)), (fun b2 w => wr.heap.size ≤ b2 ∧ Blk w b2 z16 25), (fun b w w' h hb => ⟨h.1, h.2.below hb⟩)⟩ | _ => none) (by kernel_rfl) (by kernel_rfl) (by intro d0 v0 c0 a0 w0 h0; first | (cases d0 <;> exact h0) | exact hP _ _ _ _ _ h0) ?_
      rw [show List.range 9 = [0, 1, 2, 3, 4, 5, 6, 7, 8] from rfl]
      first
        | (refine ty_skip rfl rfl ?_; (try simp only [Act.put, List.setIfInBounds_toArray, List.set_cons_zero, List.set_cons_succ]))
        | (refine ty_pure rfl rfl rfl rfl ?_; apply Exists.intro; refine ⟨fun wq hq hk => ?_, ?_⟩
           · simp only [pureAt]; go_simp; (try simp only [↓IntWalk.iteOmega]); (try go_bits); (try simp only [pureUpon]); (first | done | exact ⟨rfl, rfl⟩ | exact ⟨trivial, rfl⟩ | rfl)
           (try simp only [Act.put, List.setIfInBounds_toArray, List.set_cons_zero, List.set_cons_succ]))
      first
        | (refine ty_skip rfl rfl ?_; (try simp only [Act.put, List.setIfInBounds_toArray, List.set_cons_zero, List.set_cons_succ]))
        | (refine ty_pure rfl rfl rfl rfl ?_; apply Exists.intro; refine ⟨fun wq hq hk => ?_, ?_⟩
           · simp only [pureAt]; go_simp; (try simp only [↓IntWalk.iteOmega]); (try go_bits); (try simp only [pureUpon]); (first | done | exact ⟨rfl, rfl⟩ | exact ⟨trivial, rfl⟩ | rfl)
           (try simp only [Act.put, List.setIfInBounds_toArray, List.set_cons_zero, List.set_cons_succ]))
      first
        | (refine ty_skip rfl rfl ?_; (try simp only [Act.put, List.setIfInBounds_toArray, List.set_cons_zero, List.set_cons_succ]))
        | (refine ty_pure rfl rfl rfl rfl ?_; apply Exists.intro; refine ⟨fun wq hq hk => ?_, ?_⟩
           · simp only [pureAt]; go_simp; (try simp only [↓IntWalk.iteOmega]); (try go_bits); (try simp only [pureUpon]); (first | done | exact ⟨rfl, rfl⟩ | exact ⟨trivial, rfl⟩ | rfl)
           (try simp only [Act.put, List.setIfInBounds_toArray, List.set_cons_zero, List.set_cons_succ]))
      first
        | (refine ty_skip rfl rfl ?_; (try simp only [Act.put, List.setIfInBounds_toArray, List.set_cons_zero, List.set_cons_succ]))
        | (refine ty_pure rfl rfl rfl rfl ?_; apply Exists.intro; refine ⟨fun wq hq hk => ?_, ?_⟩
           · simp only [pureAt]; go_simp; (try simp only [↓IntWalk.iteOmega]); (try go_bits); (try simp only [pureUpon]); (first | done | exact ⟨rfl, rfl⟩ | exact ⟨trivial, rfl⟩ | rfl)
           (try simp only [Act.put, List.setIfInBounds_toArray, List.set_cons_zero, List.set_cons_succ]))
      refine ty_rel rfl rfl _ rfl rfl (fun wq hq hk => ?_) ?_
      · exact rel_load_mid _ _ rfl b (1 + r * 16) rfl LV _ (HRA.out wq (B.gr hq)) Try.underlying25 rfl (by rw [HLVL.out]; kernel_rfl) (.mk (Below.refl _ _) () rfl trivial)
      rintro ⟨⟩
      (try simp only [Act.put, List.setIfInBounds_toArray, List.set_cons_zero, List.set_cons_succ])
      first
        | (refine ty_skip rfl rfl ?_; (try simp only [Act.put, List.setIfInBounds_toArray, List.set_cons_zero, List.set_cons_succ]))
        | (refine ty_late rfl rfl rfl ?_; apply Exists.intro; refine ⟨fun wq => ?_, ?_⟩
           · simp only [pureAt]; go_simp; (try simp only [↓IntWalk.iteOmega]); (try go_bits); (try simp only [pureUpon]); (first | done | exact ⟨rfl, rfl⟩ | exact ⟨trivial, rfl⟩ | rfl)
           (try simp only [Act.put, List.setIfInBounds_toArray, List.set_cons_zero, List.set_cons_succ]))
      first
        | (refine ty_skip rfl rfl ?_; (try simp only [Act.put, List.setIfInBounds_toArray, List.set_cons_zero, List.set_cons_succ]))
        | (refine ty_late rfl rfl rfl ?_; apply Exists.intro; refine ⟨fun wq => ?_, ?_⟩
           · simp only [pureAt]; go_simp; (try simp only [↓IntWalk.iteOmega]); (try go_bits); (try simp only [pureUpon]); (first | done | exact ⟨rfl, rfl⟩ | exact ⟨trivial, rfl⟩ | rfl)
           (try simp only [Act.put, List.setIfInBounds_toArray, List.set_cons_zero, List.set_cons_succ]))
      first
        | (refine ty_skip rfl rfl ?_; (try simp only [Act.put, List.setIfInBounds_toArray, List.set_cons_zero, List.set_cons_succ]))
        | (refine ty_late rfl rfl rfl ?_; apply Exists.intro; refine ⟨fun wq => ?_, ?_⟩
           · simp only [pureAt]; go_simp; (try simp only [↓IntWalk.iteOmega]); (try go_bits); (try simp only [pureUpon]); (first | done | exact ⟨rfl, rfl⟩ | exact ⟨trivial, rfl⟩ | rfl)
           (try simp only [Act.put, List.setIfInBounds_toArray, List.set_cons_zero, List.set_cons_succ]))
      refine ty_rel rfl rfl _ rfl rfl (fun wq hq hk => ?_) ?_
      · simp only [relAt]; go_simp; (try simp only [relUpon]); exact .mk ((Below.refl _ _).alloc (Nat.le_refl _) _) wq.heap.size rfl ⟨hq.size, Blk.new wq _ _⟩
      rintro (bl : Nat)
      (try simp only [Act.put, List.setIfInBounds_toArray, List.set_cons_zero, List.set_cons_succ])
      refine ty_nil ?_
      simp only [List.drop_succ_cons, List.drop_zero]
      intro W8 hw8 hΓ
      obtain ⟨hbl, BL8⟩ := hΓ _ (.head _)
      have HBs := HB.size
      have HB8 := Below.thn HB hw8.out HBs
      have Z8 := Z.gr hw8
      have B8 := B.gr hw8
      have hblt := B.lt
      have hone16 : LV.toArray.all (·.oneCell') = true := all_oneCell_toArray (fun v hv => by
        rw [← HLV.out] at hv
        obtain ⟨n, _, rfl⟩ := List.mem_map.1 hv; rfl)
      have hsz16 : LV.toArray.size = 16 := by rw [List.size_toArray, HLVL.out]
      refine wpList_put rfl 25 _ _ rfl bl _ _ 25 rfl rfl BL8 (by rw [hsz16]; kernel_rfl) hsz16 hone16 (fun W9 hp9 BL9 => ?_)
      (try simp only [Act.put])
      have N0 : NAt w W9 b bl ws LV.toArray := ⟨hp9.below (by omega) HB8, hp9.blk (by omega) Z8, hp9.blk (by omega) B8, BL9, by omega, by omega⟩
      obtain ⟨p, hp⟩ : ∃ p, 1 + r1 * 16 = p := ⟨_, rfl⟩
      have HP := Lib.hid hp
      rw [hp]
      obtain ⟨T, hTT⟩ : ∃ x, turnL r = x := ⟨_, rfl⟩
      have HTT := Lib.hid hTT
      rw [hTT]
      clear hΓ HB HB8 Z Z8 B B8 BL8 BL9 hp9 hw8 hone16 hsz16 hp hTT
      go_wp2_with fail
      go_loopg [33] 16 (fun g2 t33 wx => ∃ (i : Nat) (ws' : List UInt8), i + g2 = 16 ∧ t33 = .int .i64 (i : Int) ∧ NAt w wx b bl ws' LV.toArray ∧ KW KEY ws' r i)
      case atStart => exact ⟨0, ws, rfl, rfl, N0, KWr⟩
      case round =>
        clear N0 KWr
        obtain ⟨i, ws, hi, rfl, N, KWi⟩ := hrel
        cases gk with
        | zero =>
          obtain rfl : i = 16 := by omega
          have KWn := KWi.next HKL.out
          have ht : turnL (r + 1) = timesL (turnL r) 2 := rfl
          have hts := fun W => times_any (turnL r) 2 W
          rw [← ht, show (((2 : UInt8).toNat : Nat) : Int) = 2 from rfl] at hts
          obtain ⟨T2, hT2⟩ : ∃ T, turnL (r + 1) = T := ⟨_, rfl⟩
          rw [hT2, HTT.out] at hts
          have HTS := Lib.hid hts; have HT2 := Lib.hid hT2
          clear ht hts hT2 hi KWi
          go_wp2_with fail
          refine (HTS.out _).mono ?_
          rintro e W10 ⟨rfl, hb⟩
          have N10 : NAt w W10 b bl ws LV.toArray := N.gr ⟨hb⟩
          clear N hb
          go_wp2_with fail
          go_roundg g
          case rel => exact ⟨r + 1, r1 + 1, ws, by rw [HR1.out], by have := HRG.out; omega, by rw [HT2.out], by simp, N10.HB, N10.Z, N10.B, KWn⟩
          case measure => omega
        | succ g2 =>
          have hi16 : (i : Int) < 16 := by omega
          have hi16n : i < 16 := by omega
          have hr10n : r < 10 := by have := HRG.out; omega
          have hwsl := KWi.len
          obtain ⟨L, hL⟩ : ∃ L, keyR KEY r = L := ⟨_, rfl⟩
          have hLl : L.length = 16 := by rw [← hL]; exact keyR_len KEY HKL.out r
          have hLV : LV = L.map bval := by rw [← HLV.out, hL]
          have hlast : ∀ j, j < 16 → wr.cell? ⟨bl, j, none⟩ = some (.int .u8 (((L.getD j 0).toNat : Nat) : Int)) := fun j hj => by
            rw [N.BL.cell, hLV]; exact bytes_get L j (by omega)
          have hbox : ∀ y : UInt8, wr.cell? ⟨b, 177 + y.toNat, none⟩ = some (.int .u8 (((subL y).toNat : Nat) : Int)) := fun y => by
            rw [N.B.cell]; exact kcells_box ws _ hwsl y.toNat_lt
          obtain ⟨o, ho⟩ : ∃ o, 16 * (r + 1) + i = o := ⟨_, rfl⟩
          have hpo : p + i = 1 + o := by rw [← HP.out, HR1.out, ← ho, Nat.mul_comm (r + 1) 16]; omega
          have hol : o < ws.length := by omega
          have hkn : keyR KEY (r + 1) = nextK L (turnL r) := by rw [← hL]; rfl
          have KWs := KWi.set HKL.out hi16n hr10n
          have hcs := nextK_get L (turnL r) i hi16n
          rw [← hkn, HTT.out] at hcs
          obtain ⟨v, hv⟩ : ∃ v, (keyR KEY (r + 1)).getD i 0 = v := ⟨_, rfl⟩
          rw [ho, hv] at KWs
          rw [hv] at hcs
          have Ns := fun (W : World) (NW : NAt w W b bl ws LV.toArray) => NW.set o v hol
          rw [← hpo] at Ns
          have htgt : ∀ W, NAt w W b bl ws LV.toArray → W.cell? ⟨b, p + i, none⟩ = some (bval (ws.getD o 0)) ∧ W.frozen? ⟨b, p + i, none⟩ = false := fun W NW => ⟨by rw [hpo, NW.B.cell]; exact kcells_get ws o hol, NW.B.frozen _⟩
          have hnow : ∀ j, j < i → wr.cell? ⟨b, p + j, none⟩ = some (.int .u8 ((((keyR KEY (r + 1)).getD j 0).toNat : Nat) : Int)) := fun j hj => by
            have e : p + j = 1 + (16 * (r + 1) + j) := by rw [← HP.out, HR1.out, Nat.mul_comm (r + 1) 16]; omega
            rw [e, N.B.cell, kcells_get ws _ (by omega), KWi.new HKL.out hj (by omega)]; rfl
          have HNOW := Lib.hid hnow
          have HT := Lib.hid htgt; have HNS := Lib.hid Ns; have HKS := Lib.hid KWs; have HI := Lib.hid hi; have HCS := Lib.hid hcs; have HLAST := Lib.hid hlast; have HBOX := Lib.hid hbox
          clear hnow hLl hLV hlast hbox ho hpo hol hkn KWs hcs hv Ns htgt hwsl KWi hi
          by_cases h0 : i = 0
          · subst h0
            have hcs := HCS.out
            rw [if_pos rfl] at hcs
            obtain ⟨x, hx⟩ : ∃ x, L.getD 0 0 = x := ⟨_, rfl⟩
            obtain ⟨y, hy⟩ : ∃ x, L.getD 13 0 = x := ⟨_, rfl⟩
            obtain ⟨z, hz⟩ : ∃ x, subL y = x := ⟨_, rfl⟩
            have e1 := sum_xor8 x z
            obtain ⟨q, hq⟩ : ∃ q, x ^^^ z = q := ⟨_, rfl⟩
            have e2 := sum_xor8 q T
            rw [hx, hy, hz, hq] at hcs
            rw [← hcs] at e2
            rw [hq] at e1
            have c1 := HLAST.out 0 (by decide); have c2 := HLAST.out 13 (by decide); have c3 := HBOX.out y
            rw [hx] at c1; rw [hy] at c2; rw [hz] at c3
            have y256 : ((y.toNat : Nat) : Int) < 256 := by have := y.toNat_lt; omega
            clear hcs hx hy hz hq
            go_wp2_with fail
            refine wp_region_gr_tail 15 (by kernel_rfl) (by kernel_rfl) ?_
            simp only [List.take_succ_cons, List.take_zero, List.drop_succ_cons, List.drop_zero]
            repeat (first
              | go_big_quiet_skip
              | ((refine BigFrame.wpQuiet_want rfl (fun K hK => quiet_mk ?_)); apply Exists.intro; refine ⟨fun wq hq => ?_, hK _ ?_⟩
                 · have f0 := hq.cell c1; have f1 := hq.cell c2; have f2 := hq.cell c3; go_simp; (try simp only [↓IntWalk.iteOmega]); (try go_bits)
                   first | done | rfl | exact ⟨rfl, rfl⟩ | exact ⟨trivial, rfl⟩
                 clear hK K; (try simp only [Act.put, List.setIfInBounds_toArray, List.set_cons_zero, List.set_cons_succ])))
            refine wpQuiet_nil ?_
            intro W10 hw10
            have N10 := N.gr hw10
            have h10 := HT.out _ N10
            rw [Nat.add_zero] at h10
            obtain ⟨t1, t2⟩ := h10
            have N11 := HNS.out _ N10
            rw [Nat.add_zero] at N11
            clear N c1 c2 c3 e1 e2 hw10 N10
            go_wp2_with fail
            go_roundg g2
            case rel => exact ⟨1, _, by have := HI.out; omega, by simp, N11, HKS.out⟩
            case measure => omega
          · by_cases h4 : i < 4
            · have hcs := HCS.out
              rw [if_neg h0, if_pos h4] at hcs
              obtain ⟨k, hk4⟩ : ∃ k, 12 + (i + 1) % 4 = k := ⟨_, rfl⟩
              rw [hk4] at hcs
              have c1 := HLAST.out i hi16n
              obtain ⟨x, hx⟩ : ∃ x, L.getD i 0 = x := ⟨_, rfl⟩
              have c2 := HLAST.out k (by omega)
              obtain ⟨y, hy⟩ : ∃ x, L.getD k 0 = x := ⟨_, rfl⟩
              have c3 := HBOX.out y
              obtain ⟨z, hz⟩ : ∃ x, subL y = x := ⟨_, rfl⟩
              have e1 := sum_xor8 x z
              rw [hx, hy, hz] at hcs
              rw [← hcs] at e1
              rw [hx] at c1; rw [hy] at c2; rw [hz] at c3
              have y256 : ((y.toNat : Nat) : Int) < 256 := by have := y.toNat_lt; omega
              clear hcs hx hy hz
              obtain rfl | rfl | rfl : i = 1 ∨ i = 2 ∨ i = 3 := by omega
              all_goals
                simp only [Nat.reduceAdd, Nat.reduceMod] at hk4
                subst hk4
                go_wp2_with fail
                refine wp_region_gr_tail 17 (by kernel_rfl) (by kernel_rfl) ?_
                simp only [List.take_succ_cons, List.take_zero, List.drop_succ_cons, List.drop_zero]
                repeat (first
                  | go_big_quiet_skip
                  | ((refine BigFrame.wpQuiet_want rfl (fun K hK => quiet_mk ?_)); apply Exists.intro; refine ⟨fun wq hq => ?_, hK _ ?_⟩
                     · have f0 := hq.cell c1; have f1 := hq.cell c2; have f2 := hq.cell c3; go_simp; (try simp only [↓IntWalk.iteOmega]); (try go_bits)
                       first | done | rfl | exact ⟨rfl, rfl⟩ | exact ⟨trivial, rfl⟩
                     clear hK K; (try simp only [Act.put, List.setIfInBounds_toArray, List.set_cons_zero, List.set_cons_succ])))
                refine wpQuiet_nil ?_
                intro W10 hw10
                have N10 := N.gr hw10
                obtain ⟨t1, t2⟩ := HT.out _ N10
                have N11 := HNS.out _ N10
                clear N c1 c2 c3 e1 hw10 N10
                go_wp2_with fail
                go_roundg g2
                case rel => exact ⟨_, _, by have := HI.out; omega, by simp, N11, HKS.out⟩
                case measure => omega
            · have hcs := HCS.out
              rw [if_neg h0, if_neg h4] at hcs
              obtain ⟨k, hk4⟩ : ∃ k, i - 4 = k := ⟨_, rfl⟩
              have him : (i : Int) - 4 = (k : Int) := by omega
              rw [hk4] at hcs
              have c1 := HLAST.out i hi16n
              obtain ⟨x, hx⟩ : ∃ x, L.getD i 0 = x := ⟨_, rfl⟩
              have c2 := HNOW.out k (by omega)
              obtain ⟨y, hy⟩ : ∃ x, (keyR KEY (r + 1)).getD k 0 = x := ⟨_, rfl⟩
              have e1 := sum_xor8 x y
              rw [hx, hy] at hcs
              rw [← hcs] at e1
              rw [hx] at c1; rw [hy] at c2
              have hk16 : (k : Int) < 16 := by omega
              have hi0 : ¬ (i : Int) = 0 := by omega
              have hi4 : ¬ (i : Int) < 4 := by omega
              clear hcs hx hy hk4 h0 h4
              go_wp2_with fail
              refine wp_region_gr_tail 14 (by kernel_rfl) (by kernel_rfl) ?_
              simp only [List.take_succ_cons, List.take_zero, List.drop_succ_cons, List.drop_zero]
              repeat (first
                | go_big_quiet_skip
                | ((refine BigFrame.wpQuiet_want rfl (fun K hK => quiet_mk ?_)); apply Exists.intro; refine ⟨fun wq hq => ?_, hK _ ?_⟩
                   · have f0 := hq.cell c1; have f1 := hq.cell c2; go_simp; (try simp only [↓IntWalk.iteOmega]); (try go_bits)
                     first | done | rfl | exact ⟨rfl, rfl⟩ | exact ⟨trivial, rfl⟩
                   clear hK K; (try simp only [Act.put, List.setIfInBounds_toArray, List.set_cons_zero, List.set_cons_succ])))
              refine wpQuiet_nil ?_
              intro W10 hw10
              have N10 := N.gr hw10
              obtain ⟨t1, t2⟩ := HT.out _ N10
              have N11 := HNS.out _ N10
              clear N c1 c2 e1 hw10 N10
              go_wp2_with fail
              go_roundg g2
              case rel => exact ⟨_, _, by have := HI.out; omega, by simp, N11, HKS.out⟩
              case measure => omega
end Go.Proofs.Ytkblkdojmfgneaa
