/- The document's AES: the plain law. -/
import Derived.Test.YtkblkdojmfgneaaAesL
import Derived.Test.YtkblkdojmfgneaaShaL
namespace Go.Proofs.Ytkblkdojmfgneaa

/-- As polynomials: so many bits of b are left. -/
def rt1 (a b : Nat) : Nat → Nat → Nat
  | 0, p => p
  | n + 1, p => reck (if (b / 2 ^ (7 - n)) % 2 = 1 then p ^^^ (a * 2 ^ (7 - n)) else p) (rt1 a b n)
/-- .. brought down: so many bits are left. -/
def rt2 : Nat → Nat → Nat
  | 0, p => p
  | n + 1, p => reck (if (p / 2 ^ (n + 8)) % 2 = 1 then p ^^^ (283 * 2 ^ n) else p) (rt2 n)
def rTimes (a b : Nat) : Nat := rt2 7 (rt1 a b 8 0) % 256
theorem rTimes_lt (a b : Nat) : rTimes a b < 256 := Nat.mod_lt _ (by decide)
theorem rTimes_two : (List.range 256).all (fun a => rTimes a 2 == (timesL (UInt8.ofNat a) 2).toNat) = true := by kernel_rfl
theorem rTimes_three : (List.range 256).all (fun a => rTimes a 3 == (timesL (UInt8.ofNat a) 3).toNat) = true := by kernel_rfl
/-- The inverse, and the map behind it. -/
def powGo : Nat → Nat → Nat → Nat
  | 0, p, _ => p
  | n + 1, p, sq => reck (rTimes sq sq) fun s => reck (rTimes p s) fun q => powGo n q s
def bitN (c i : Nat) : Nat := (c / 2 ^ i + c / 2 ^ ((i + 4) % 8) + c / 2 ^ ((i + 5) % 8) + c / 2 ^ ((i + 6) % 8) + c / 2 ^ ((i + 7) % 8) + 99 / 2 ^ i) % 2
def affGo (c : Nat) : Nat → Nat → Nat
  | 0, o => o
  | n + 1, o => reck (o + bitN c (7 - n) * 2 ^ (7 - n)) (affGo c n)
def subN (a : Nat) : Nat := affGo (powGo 7 1 a) 8 0 % 256
theorem subN_box : (List.range 256).all (fun a => subN a == (boxL.getD a 0).toNat) = true := by kernel_rfl
theorem rTimes_2 (x : UInt8) : rTimes x.toNat 2 = (timesL x 2).toNat := by
  have h := List.all_eq_true.1 rTimes_two x.toNat (List.mem_range.2 x.toNat_lt)
  rw [beq_iff_eq] at h
  rw [h, UInt8.ofNat_toNat]
theorem rTimes_3 (x : UInt8) : rTimes x.toNat 3 = (timesL x 3).toNat := by
  have h := List.all_eq_true.1 rTimes_three x.toNat (List.mem_range.2 x.toNat_lt)
  rw [beq_iff_eq] at h
  rw [h, UInt8.ofNat_toNat]
theorem subN_sub (x : UInt8) : subN x.toNat = (subL x).toNat := by
  have h := List.all_eq_true.1 subN_box x.toNat (List.mem_range.2 x.toNat_lt)
  rw [beq_iff_eq] at h
  exact h
end Go.Proofs.Ytkblkdojmfgneaa
