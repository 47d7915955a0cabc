/- bits.RotateLeft8; package aes: Box. -/
import Derived.Test.YtkblkdojmfgneaaAes1
import Derived.Test.YtkblkdojmfgneaaShaA
namespace Go.Proofs.Ytkblkdojmfgneaa
open Go.RowKit

set_option maxHeartbeats 4000000 in
set_option maxRecDepth 20000 in
theorem rot8_any (x : UInt8) (n : Nat) (w : World) (h1 : 1 ≤ n) (h2 : n ≤ 4) :
    Calls Try.prog 81 #[.int .u8 ((x.toNat : Nat) : Int), .int .i64 n] w fun e w' => e = .returned (.int .u8 (((rotl8 x n).toNat : Nat) : Int)) ∧ w' = w := by
  have hand : bits .and .u64 (n : Int) 7 = (n : Int) := by
    have h5 := u64_and_nat n 7 (by omega) (by decide)
    rw [show ((7 : Nat) : Int) = 7 from rfl] at h5
    rw [h5]
    congr 1
    have : n = 1 ∨ n = 2 ∨ n = 3 ∨ n = 4 := by omega
    rcases this with rfl | rfl | rfl | rfl <;> rfl
  obtain ⟨k, hk⟩ : ∃ k, 8 - n = k := ⟨_, rfl⟩
  have hki : (8 : Int) - n = (k : Int) := by omega
  have hn0 : (0 : Int) ≤ n := by omega
  have hn8 : (n : Int) < 8 := by omega
  have hk0 : (0 : Int) ≤ k := by omega
  have hk8 : (k : Int) < 8 := by omega
  have hx := x.toNat_lt
  have hval : bits .or .u8 (((x.toNat : Nat) : Int) * 2 ^ n % 256) (((x.toNat : Nat) : Int) / 2 ^ k) = (((rotl8 x n).toNat : Nat) : Int) := by
    have e1 : ((x.toNat : Nat) : Int) * 2 ^ n % 256 = (((UInt8.ofNat (x.toNat * 2 ^ n)).toNat : Nat) : Int) := by simp
    have e2 : ((x.toNat : Nat) : Int) / 2 ^ k = (((UInt8.ofNat (x.toNat / 2 ^ k)).toNat : Nat) : Int) := by
      rw [UInt8.toNat_ofNat', Nat.mod_eq_of_lt (Nat.lt_of_le_of_lt (Nat.div_le_self _ _) hx)]; simp
    rw [e1, e2, u8_or_nat _ _ (UInt8.toNat_lt _) (UInt8.toNat_lt _)]
    unfold rotl8
    rw [hk]; simp
  have HV := Lib.hid hval
  clear hval hk
  go_enter Try.func81, Try.ntmps81
  go_wp2_with fail
  go_ret
  exact ⟨by rw [← HV.out]; rfl, rfl⟩
theorem box_at (k : Nat) (h : k < 255) : timesL (pL.getD k 0) 3 = pL.getD (k + 1) 0 ∧ timesL (qL.getD k 0) 246 = qL.getD (k + 1) 0 ∧ affL (qL.getD (k + 1) 0) = sL.getD (k + 1) 0 ∧ (pL.getD (k + 1) 0 = 1 ↔ k = 254) := by
  have h5 := List.all_eq_true.1 box_steps k (List.mem_range.2 h)
  simp only [Bool.and_eq_true, beq_iff_eq] at h5
  obtain ⟨⟨⟨e1, e2⟩, e3⟩, e4⟩ := h5
  refine ⟨e1, e2, e3, ?_⟩
  constructor
  · intro h6
    rw [h6] at e4
    simpa using e4.symm
  · intro h6
    rw [h6] at e4 ⊢
    simpa using e4
theorem boxGo_len : ∀ k, (boxGo k).length = 256
  | 0 => by rw [boxGo, List.length_set, List.length_replicate]
  | k + 1 => by rw [boxGo, List.length_set, boxGo_len k]
/-- c, so many of the turned ones added. -/
def affGo8 (q : UInt8) : Nat → UInt8
  | 0 => q
  | n + 1 => affGo8 q n ^^^ rotl8 q (n + 1)
theorem affGo8_all (q : UInt8) : affGo8 q 4 ^^^ 99 = affL q := rfl
theorem bytes_set (l : List UInt8) (i : Nat) (c : UInt8) : ((l.map bval).toArray).setIfInBounds i (bval c) = ((l.set i c).map bval).toArray := by
  rw [List.setIfInBounds_toArray, List.map_set]
theorem bytes_get (l : List UInt8) (i : Nat) (h : i < l.length) : ((l.map bval).toArray)[i]? = some (bval (l.getD i 0)) := by
  rw [List.getElem?_toArray, List.getElem?_map, List.getD_eq_getElem?_getD, List.getElem?_eq_getElem h]; rfl
theorem bytes_one (l : List UInt8) : ((l.map bval).toArray).all (·.oneCell') = true := all_oneCell_toArray (fun v hv => by
  obtain ⟨n, _, rfl⟩ := List.mem_map.1 hv; rfl)
end Go.Proofs.Ytkblkdojmfgneaa
