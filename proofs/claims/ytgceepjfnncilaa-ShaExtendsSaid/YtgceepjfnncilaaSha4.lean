/- Package sha: right. -/
import Derived.Test.YtgceepjfnncilaaSha3
namespace Go.Proofs.Ytgceepjfnncilaa
open Go.RowKit

set_option maxHeartbeats 4000000 in
set_option maxRecDepth 20000 in
theorem rot_any (x n s : Nat) (w : World) (hx : x < 4294967296) (h1 : 1 ≤ n) (h2 : n ≤ 31) (hs : s + n = 32) :
    Calls Try.prog 58 #[.int .u32 x, .int .i64 (-(n : Int))] w fun e w' => e = .returned (.int .u32 (rotr x n : Nat)) ∧ w' = w := by
  have hw : IntKind.u64.wrap (-(n : Int)) = ((18446744073709551616 - n : Nat) : Int) := by
    simp [IntKind.wrap, IntKind.bits, IntKind.signed]; omega
  have hand : bits .and .u64 (IntKind.u64.wrap (-(n : Int))) 31 = (s : Int) := by
    have h5 := u64_and_nat (18446744073709551616 - n) 31 (by omega) (by decide)
    rw [nat_mask5] at h5
    rw [hw]
    refine h5.trans ?_
    congr 1
    omega
  have hsi : (s : Int) < 32 := by omega
  have hs0 : (0 : Int) ≤ s := by omega
  have hsn : (32 : Int) - s = n := by omega
  have hval : bits .or .u32 ((x : Int) * 2 ^ s % 4294967296) ((x : Int) / 2 ^ n) = ((rotr x n : Nat) : Int) := by
    have h5 := u32_or_nat (x * 2 ^ s % 4294967296) (x / 2 ^ n) (Nat.mod_lt _ (by decide)) (Nat.lt_of_le_of_lt (Nat.div_le_self _ _) hx)
    have e1 : ((x : Int) * 2 ^ s % 4294967296) = ((x * 2 ^ s % 4294967296 : Nat) : Int) := by simp
    have e2 : ((x : Int) / 2 ^ n) = ((x / 2 ^ n : Nat) : Int) := by simp
    rw [e1, e2, h5]
    unfold rotr
    rw [Nat.shiftRight_eq_div_pow, Nat.shiftLeft_eq, show 32 - n = s by omega, Nat.or_comm]
  have HV := Lib.hid hval
  clear hw hval
  go_enter Try.func58, Try.ntmps58
  go_wp2_with fail
  go_ret
  exact ⟨by rw [← HV.out]; rfl, rfl⟩
theorem rotr_lt (x n : Nat) (hx : x < 4294967296) : rotr x n < 4294967296 := by
  unfold rotr
  refine Nat.or_lt_two_pow (n := 32) ?_ (Nat.mod_lt _ (by decide))
  rw [Nat.shiftRight_eq_div_pow]
  exact Nat.lt_of_le_of_lt (Nat.div_le_self _ _) hx
set_option maxHeartbeats 4000000 in
set_option maxRecDepth 20000 in
theorem right_any (x n : Nat) (w : World) (hx : x < 4294967296) (h1 : 1 ≤ n) (h2 : n ≤ 31) :
    Calls Try.prog 53 #[.int .u32 x, .int .i64 n] w fun e w' => e = .returned (.int .u32 (rotr x n : Nat)) ∧ Below w.heap.size w w' := by
  go_enter Try.func53, Try.ntmps53
  go_wp2_with fail
  refine (rot_any x n (32 - n) _ hx h1 h2 (by omega)).mono ?_
  rintro e w' ⟨rfl, rfl⟩
  go_wp2_with fail
  go_ret
  exact ⟨rfl, Below.refl _ _⟩
end Go.Proofs.Ytgceepjfnncilaa
