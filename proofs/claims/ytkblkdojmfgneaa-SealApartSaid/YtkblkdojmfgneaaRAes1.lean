/- The document's AES: Times. -/
import Derived.Test.YtkblkdojmfgneaaRAesL
import Derived.Test.YtkblkdojmfgneaaAwk6
namespace Go.Proofs.Ytkblkdojmfgneaa
open Go.RowKit

theorem i64_xor_nat (a b : Nat) (ha : a < 9223372036854775808) (hb : b < 9223372036854775808) : bits .xor .i64 (a : Int) (b : Int) = ((a ^^^ b : Nat) : Int) := by
  have hx : a ^^^ b < 2 ^ 63 := Nat.xor_lt_two_pow (by omega) (by omega)
  have e1 : (BitVec.ofInt 64 (a : Int)).toNat = a := by rw [BitVec.ofInt_natCast, BitVec.toNat_ofNat]; exact Nat.mod_eq_of_lt (by omega)
  have e2 : (BitVec.ofInt 64 (b : Int)).toNat = b := by rw [BitVec.ofInt_natCast, BitVec.toNat_ofNat]; exact Nat.mod_eq_of_lt (by omega)
  show IntKind.i64.wrap ((BitVec.ofInt 64 (a : Int) ^^^ BitVec.ofInt 64 (b : Int)).toNat : Int) = _
  rw [BitVec.toNat_xor, e1, e2]
  simp [IntKind.wrap, IntKind.bits, IntKind.signed]
  omega
set_option maxHeartbeats 4000000 in
set_option maxRecDepth 20000 in
theorem rtimes_any (a b : Nat) (ha : a < 256) (hb : b < 256) (w : World) : Calls Try.prog 84 #[.int .u8 (a : Int), .int .u8 (b : Int)] w fun e w' => e = .returned (.int .u8 ((rTimes a b : Nat) : Int)) ∧ w' = w := by
  obtain ⟨P, hP⟩ : ∃ P, rt1 a b 8 0 = P := ⟨_, rfl⟩
  obtain ⟨R, hR⟩ : ∃ P, rTimes a b = P := ⟨_, rfl⟩
  have hR2 : rt2 7 P % 256 = R := by rw [← hP, ← hR]; rfl
  rw [hR]
  have HP := Lib.hid hP; have HR2 := Lib.hid hR2
  clear hP hR hR2
  go_enter Try.func84, Try.ntmps84
  go_wp2_with fail
  go_loopg [5, 6] 8 (fun gk t5 t6 wr => ∃ i p : Nat, i + gk = 8 ∧ t5 = .int .i64 (p : Int) ∧ t6 = .int .i64 (i : Int) ∧ p < 32768 ∧ rt1 a b gk p = P ∧ w = wr)
  case atStart => exact ⟨0, 0, rfl, rfl, rfl, by decide, HP.out, rfl⟩
  case round =>
    clear HP
    obtain ⟨i, p, hi, rfl, rfl, hp, hgo, hwr⟩ := hrel
    subst hwr
    cases gk with
    | zero =>
      obtain rfl : i = 8 := by omega
      rw [rt1] at hgo
      subst hgo
      clear hi
      go_wp2_with fail
      go_loopg [5, 7] 7 (fun gn t5 t7 wr => ∃ p i : Nat, i = gn + 7 ∧ gn ≤ 7 ∧ t5 = .int .i64 (p : Int) ∧ t7 = .int .i64 (i : Int) ∧ p < 32768 ∧ rt2 gn p % 256 = R ∧ w = wr)
      case atStart => exact ⟨p, 14, rfl, by decide, rfl, rfl, hp, HR2.out, rfl⟩
      case round =>
        clear HR2 hp
        obtain ⟨p, i, hi, hg7, rfl, rfl, hp, hgo, hwr⟩ := hrel
        subst hwr
        cases gk with
        | zero =>
          rw [rt2] at hgo
          subst hgo
          obtain rfl : i = 7 := by omega
          clear hi
          go_wp2_with fail
          go_ret
          exact ⟨rfl, rfl⟩
        | succ g =>
          rw [rt2, reck_eq, show g + 8 = i from by omega] at hgo
          have hi8 : (8 : Int) ≤ (i : Int) := by omega
          have him : (i : Int) - 8 = (g : Int) := by omega
          obtain ⟨q, hq⟩ : ∃ q, p / 2 ^ i = q := ⟨_, rfl⟩
          have hqi : (p : Int) / 2 ^ i = (q : Int) := by rw [← hq]; simp
          rw [hq] at hgo
          have hg6 : g ≤ 6 := by omega
          obtain ⟨j, hj⟩ : ∃ j, g + 7 = j := ⟨_, rfl⟩
          have hii : (i : Int) - 1 = (j : Int) := by omega
          have HJ := Lib.hid hj
          clear hq hi hj
          by_cases h1 : q % 2 = 1
          · rw [if_pos h1] at hgo
            have h1i : (q : Int) % 2 = 1 := by omega
            have hsl : 283 * 2 ^ g < 32768 := by
              have e : 283 * 2 ^ g ≤ 283 * 2 ^ 6 := Nat.mul_le_mul_left _ (Nat.pow_le_pow_right (by decide) hg6)
              omega
            obtain ⟨s, hs⟩ : ∃ s, 283 * 2 ^ g = s := ⟨_, rfl⟩
            have hsi : (283 : Int) * 2 ^ g = (s : Int) := by rw [← hs]; simp
            rw [hs] at hgo hsl
            have e1 := i64_xor_nat p s (by omega) (by omega)
            have hxl : p ^^^ s < 32768 := Nat.xor_lt_two_pow (n := 15) hp hsl
            obtain ⟨x, hx⟩ : ∃ x, p ^^^ s = x := ⟨_, rfl⟩
            rw [hx] at hgo e1 hxl
            have HG := Lib.hid hgo
            clear h1 hs hx hgo
            go_wp2_with fail
            go_roundg g
            case rel => exact ⟨x, j, HJ.out.symm, by omega, rfl, rfl, hxl, HG.out, rfl⟩
            case measure => omega
          · rw [if_neg h1] at hgo
            have h1i : ¬ (q : Int) % 2 = 1 := by omega
            have HG := Lib.hid hgo
            clear h1 hgo
            go_wp2_with fail
            go_roundg g
            case rel => exact ⟨p, j, HJ.out.symm, by omega, rfl, rfl, hp, HG.out, rfl⟩
            case measure => omega
    | succ g =>
      rw [rt1, show 7 - g = i by omega, reck_eq] at hgo
      have hi8 : (i : Int) < 8 := by omega
      obtain ⟨q, hq⟩ : ∃ q, b / 2 ^ i = q := ⟨_, rfl⟩
      have hqi : (b : Int) / 2 ^ i = (q : Int) := by rw [← hq]; simp
      rw [hq] at hgo
      have HI := Lib.hid hi
      clear hq hi
      by_cases h1 : q % 2 = 1
      · rw [if_pos h1] at hgo
        have h1i : (q : Int) % 2 = 1 := by omega
        have hsl : a * 2 ^ i < 32768 := by
          have e : a * 2 ^ i ≤ a * 2 ^ 7 := Nat.mul_le_mul_left _ (Nat.pow_le_pow_right (by decide) (by omega))
          omega
        obtain ⟨s, hs⟩ : ∃ s, a * 2 ^ i = s := ⟨_, rfl⟩
        have hsi : (a : Int) * 2 ^ i = (s : Int) := by rw [← hs]; simp
        rw [hs] at hgo hsl
        have e1 := i64_xor_nat p s (by omega) (by omega)
        have hxl : p ^^^ s < 32768 := Nat.xor_lt_two_pow (n := 15) hp hsl
        obtain ⟨x, hx⟩ : ∃ x, p ^^^ s = x := ⟨_, rfl⟩
        rw [hx] at hgo e1 hxl
        have HG := Lib.hid hgo
        clear h1 hs hx hgo
        go_wp2_with fail
        go_roundg g
        case rel => exact ⟨i + 1, x, by have := HI.out; omega, by simp, by simp, hxl, HG.out, rfl⟩
        case measure => omega
      · rw [if_neg h1] at hgo
        have h1i : ¬ (q : Int) % 2 = 1 := by omega
        have HG := Lib.hid hgo
        clear h1 hgo
        go_wp2_with fail
        go_roundg g
        case rel => exact ⟨i + 1, p, by have := HI.out; omega, by simp, by simp, hp, HG.out, rfl⟩
        case measure => omega
end Go.Proofs.Ytkblkdojmfgneaa
