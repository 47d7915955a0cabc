/- Package aes: Times; bits.RotateLeft8. -/
import Derived.Test.YtkblkdojmfgneaaAesL
import Derived.Test.YtkblkdojmfgneaaHmacA
namespace Go.Proofs.Ytkblkdojmfgneaa
open Go.RowKit

theorem timesGo_zero (n : Nat) (a p : UInt8) : timesGo n a 0 p = p := by
  cases n with
  | zero => rfl
  | succ n => rw [timesGo, if_pos rfl]
set_option maxHeartbeats 4000000 in
set_option maxRecDepth 20000 in
theorem times_any (a b : UInt8) (w : World) : Calls Try.prog 50 #[.int .u8 ((a.toNat : Nat) : Int), .int .u8 ((b.toNat : Nat) : Int)] w fun e w' => e = .returned (.int .u8 (((timesL a b).toNat : Nat) : Int)) ∧ Below w.heap.size w w' := by
  obtain ⟨R, hR⟩ : ∃ R, timesGo 8 a b 0 = R := ⟨_, rfl⟩
  have hr : timesL a b = R := hR
  rw [hr]
  have HR := Lib.hid hR
  clear hR hr
  go_enter Try.func50, Try.ntmps50
  go_wp2_with fail
  go_loopg [0, 1, 5] 8 (fun gk t0 t1 t5 wr => ∃ a b p : UInt8, t0 = .int .u8 ((a.toNat : Nat) : Int) ∧ t1 = .int .u8 ((b.toNat : Nat) : Int) ∧ t5 = .int .u8 ((p.toNat : Nat) : Int) ∧ b.toNat < 2 ^ gk ∧ timesGo gk a b p = R ∧ Below w.heap.size w wr)
  case atStart => exact ⟨a, b, 0, rfl, rfl, rfl, b.toNat_lt, HR.out, Below.refl _ _⟩
  case round =>
    clear HR
    obtain ⟨a, b, p, rfl, rfl, rfl, hb, hgo, HB⟩ := hrel
    by_cases h0 : b = 0
    · subst h0
      rw [timesGo_zero] at hgo
      subst hgo
      have hz : ¬ (0 : Int) < (((0 : UInt8).toNat : Nat) : Int) := by decide
      clear hb
      go_wp2_with fail
      go_ret
      exact ⟨rfl, HB⟩
    · have hb0 : b.toNat ≠ 0 := fun h => h0 (UInt8.toNat_inj.1 h)
      have hpos : (0 : Int) < ((b.toNat : Nat) : Int) := by omega
      obtain ⟨g, rfl⟩ : ∃ g, gk = g + 1 := by
        cases gk with
        | zero => exact absurd hb (by simp; omega)
        | succ g => exact ⟨g, rfl⟩
      rw [timesGo, if_neg h0] at hgo
      obtain ⟨s, hs⟩ : ∃ s, a <<< 1 = s := ⟨_, rfl⟩
      obtain ⟨c, hc⟩ : ∃ s, a >>> 7 = s := ⟨_, rfl⟩
      obtain ⟨m, hm⟩ : ∃ s, c * 27 = s := ⟨_, rfl⟩
      obtain ⟨n, hn⟩ : ∃ z, s ^^^ m = z := ⟨_, rfl⟩
      obtain ⟨b2, hb2⟩ : ∃ s, b >>> 1 = s := ⟨_, rfl⟩
      obtain ⟨bit, hbit⟩ : ∃ s, b &&& 1 = s := ⟨_, rfl⟩
      have e1 : ((a.toNat : Nat) : Int) * 2 % 256 = ((s.toNat : Nat) : Int) := by rw [← hs]; simp [UInt8.toNat_shiftLeft, Nat.shiftLeft_eq]
      have e2 : ((a.toNat : Nat) : Int) / 128 = ((c.toNat : Nat) : Int) := by rw [← hc]; simp [UInt8.toNat_shiftRight, Nat.shiftRight_eq_div_pow]
      have hc1 : c.toNat ≤ 1 := by
        have h5 := a.toNat_lt
        have h6 : (c.toNat : Int) = (a.toNat : Int) / 128 := e2.symm
        omega
      have e3 : ((c.toNat : Nat) : Int) * 27 = ((m.toNat : Nat) : Int) := by
        rw [← hm, UInt8.toNat_mul, show (27 : UInt8).toNat = 27 from rfl]
        have : c.toNat * 27 % 2 ^ 8 = c.toNat * 27 := Nat.mod_eq_of_lt (by omega)
        rw [this]; simp
      have e3' : ((c.toNat : Nat) : Int) * 27 % 256 = ((m.toNat : Nat) : Int) := by
        rw [e3]; have := m.toNat_lt; omega
      have e4 := sum_xor8 s m
      rw [hn] at e4
      have e5 : ((b.toNat : Nat) : Int) / 2 = ((b2.toNat : Nat) : Int) := by rw [← hb2]; simp [UInt8.toNat_shiftRight, Nat.shiftRight_eq_div_pow]
      have e6 : bits .and .u8 ((b.toNat : Nat) : Int) 1 = ((bit.toNat : Nat) : Int) := by
        rw [← hbit]
        have h5 := u8_and_nat b.toNat 1 b.toNat_lt (by decide)
        rw [show ((1 : Nat) : Int) = 1 from rfl] at h5
        rw [h5]; simp
      have hlt : b2.toNat < 2 ^ g := by
        have h6 : (b2.toNat : Int) = (b.toNat : Int) / 2 := e5.symm
        rw [Nat.pow_succ] at hb
        omega
      rw [hs, hc, hm, hn, hb2] at hgo
      have HLT := Lib.hid hlt
      have hgo' := hgo
      rw [hbit] at hgo'
      clear hgo hb hs hc hm hn hb2 hbit hlt hb0
      by_cases h1 : bit = 1
      · rw [if_pos h1] at hgo'
        have h1i : ((bit.toNat : Nat) : Int) = 1 := by rw [h1]; rfl
        have e7 := sum_xor8 p a
        obtain ⟨q, hq⟩ : ∃ q, p ^^^ a = q := ⟨_, rfl⟩
        rw [hq] at e7 hgo'
        have HG := Lib.hid hgo'
        clear hgo' hq
        go_wp2_with fail
        go_roundg g
        case rel => exact ⟨n, b2, q, rfl, rfl, rfl, HLT.out, HG.out, HB⟩
        case measure => omega
      · rw [if_neg h1] at hgo'
        have h1i : ¬ ((bit.toNat : Nat) : Int) = 1 := fun h => h1 (UInt8.toNat_inj.1 (by show bit.toNat = 1; omega))
        have HG := Lib.hid hgo'
        clear hgo'
        go_wp2_with fail
        go_roundg g
        case rel => exact ⟨n, b2, p, rfl, rfl, rfl, HLT.out, HG.out, HB⟩
        case measure => omega
end Go.Proofs.Ytkblkdojmfgneaa
