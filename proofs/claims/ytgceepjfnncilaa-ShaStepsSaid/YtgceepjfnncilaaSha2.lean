/- Package sha: behind, Keys, Start. -/
import Derived.Test.YtgceepjfnncilaaSha1
import Derived.Test.YtgceepjfnncilaaShelf
import Derived.Laws.BitsAllLaws
namespace Go.Proofs.Ytgceepjfnncilaa
open Go.RowKit

theorem mul64_any (x y h l : Nat) (hx : x < 18446744073709551616) (hy : y < 18446744073709551616) (hh : x * y / 18446744073709551616 = h) (hl : x * y % 18446744073709551616 = l) (w : World) :
    Calls Try.prog 49 #[.int .u64 x, .int .u64 y] w fun e w' => e = .returned (.tuple #[.int .u64 h, .int .u64 l]) ∧ w' = w := by
  have := Try.bits_Mul64 x y hx hy w
  rw [hh, hl] at this
  exact this
theorem beh_two (y h l p : Nat) (hh : y * y / 18446744073709551616 = h) (hl : y * y % 18446744073709551616 = l) : (y * y ≤ p * 2 ^ 64) ↔ (h < p ∨ (h = p ∧ l = 0)) := by
  have h5 := Nat.div_add_mod (y * y) 18446744073709551616
  rw [hh, hl] at h5
  have h6 : l < 18446744073709551616 := by rw [← hl]; exact Nat.mod_lt _ (by decide)
  omega
theorem beh_three (y h l c m p : Nat) (hh : y * y / 18446744073709551616 = h) (hl : y * y % 18446744073709551616 = l) (hc : l * y / 18446744073709551616 = c) (hm : l * y % 18446744073709551616 = m) :
    (y * y * y ≤ p * 2 ^ 96) ↔ (h * y + c < p * 4294967296 ∨ (h * y + c = p * 4294967296 ∧ m = 0)) := by
  have h5 := Nat.div_add_mod (y * y) 18446744073709551616
  rw [hh, hl] at h5
  have h7 := Nat.div_add_mod (l * y) 18446744073709551616
  rw [hc, hm] at h7
  have h8 : m < 18446744073709551616 := by rw [← hm]; exact Nat.mod_lt _ (by decide)
  have h9 : y * y * y = 18446744073709551616 * (h * y + c) + m := by
    rw [← h5, Nat.add_mul, ← h7, Nat.mul_add, Nat.mul_assoc]; omega
  rw [h9]
  generalize h * y + c = H
  omega

set_option maxHeartbeats 8000000 in
set_option maxRecDepth 20000 in
theorem behind_any (p : Nat) (three : Bool) (w : World) (hp : p ≤ 400) :
    Calls Try.prog 43 #[.int .u64 p, .bool three] w fun e w' => e = .returned (.int .u32 (behL p three : Nat)) ∧ Below w.heap.size w w' := by
  obtain ⟨R, hR⟩ : ∃ R, behGo p three 37 0 = R := ⟨_, rfl⟩
  have hBL : behL p three = R % 2 ^ 32 := by unfold behL; rw [hR]
  rw [hBL]
  clear hBL
  go_enter Try.func43, Try.ntmps43
  go_wp2_with fail
  go_loopg [5, 6] 37 (fun g t5 t6 wr => ∃ x : Nat, t5 = .int .u64 x ∧ t6 = .int .u64 ((2 ^ g / 2 : Nat) : Int) ∧ g ≤ 37 ∧ x < 2 ^ 37 ∧ behGo p three g x = R ∧ wr = w)
  case atStart => exact ⟨0, rfl, rfl, by omega, by decide, hR, rfl⟩
  case round =>
    obtain ⟨x, rfl, rfl, hg, hx, hgo, rfl⟩ := hrel
    cases gk with
    | zero =>
      have hxR : x = R := hgo
      subst hxR
      clear hgo hR
      go_wp2_with fail
      go_ret
      exact ⟨rfl, Below.refl _ _⟩
    | succ g =>
      rw [behGo, reck_eq] at hgo
      obtain ⟨B, hB⟩ : ∃ B, 2 ^ g = B := ⟨_, rfl⟩
      have hB1 : 2 ^ (g + 1) / 2 = B := by rw [Nat.pow_succ, Nat.mul_div_cancel _ (by decide)]; exact hB
      have hB36 : B < 2 ^ 37 := by rw [← hB]; exact Nat.pow_lt_pow_right (by decide) (by omega)
      have hBp : 0 < B := by rw [← hB]; exact Nat.two_pow_pos g
      rw [hB1]
      obtain ⟨B2, hB2⟩ : ∃ k, 2 ^ g / 2 = k := ⟨_, rfl⟩
      have hB2' : B / 2 = B2 := by rw [← hB]; exact hB2
      obtain ⟨y, hy⟩ : ∃ y, x ||| B = y := ⟨_, rfl⟩
      have hy37 : y < 2 ^ 37 := by rw [← hy]; exact Nat.or_lt_two_pow hx hB36
      have hor : bits .or .u64 (x : Int) (B : Int) = (y : Int) := by rw [u64_or_nat _ _ (by omega) (by omega), hy]
      obtain ⟨h, hh⟩ : ∃ k, y * y / 18446744073709551616 = k := ⟨_, rfl⟩
      obtain ⟨l, hl⟩ : ∃ k, y * y % 18446744073709551616 = k := ⟨_, rfl⟩
      have M1 := Lib.hid (fun W => mul64_any y y h l (by omega) (by omega) hh hl W)
      have hBi : (0 : Int) < B := by omega
      have hB2i : (B : Int) / 2 = (B2 : Int) := by omega
      have hstep : behStep p three x B = if (if three then y * y * y else y * y) ≤ (if three then p * 2 ^ 96 else p * 2 ^ 64) then y else x := by unfold behStep; rw [hy]
      rw [hB, hstep] at hgo
      have HGO := Lib.hid hgo
      have HY := Lib.hid (And.intro hh hl)
      have HB2 := Lib.hid hB2
      clear hgo hstep hh hl hB hB1 hB2 hB2' hy
      have h10 : h ≤ 1023 := by
        rw [← HY.out.1]
        have : y * y ≤ (2 ^ 37 - 1) * (2 ^ 37 - 1) := Nat.mul_le_mul (by omega) (by omega)
        omega
      have hl64 : l < 18446744073709551616 := by rw [← HY.out.2]; exact Nat.mod_lt _ (by decide)
      cases three with
      | false =>
        have HT := Lib.hid (beh_two y h l p HY.out.1 HY.out.2)
        go_wp2_with fail
        refine (M1.out _).mono ?_
        rintro e W' ⟨rfl, rfl⟩
        by_cases c1 : h < p
        · have c1i : (h : Int) < p := by omega
          have hgo := HGO.out
          simp only [Bool.false_eq_true, if_false] at hgo
          rw [if_pos (HT.out.2 (.inl c1))] at hgo
          have HG2 := Lib.hid hgo
          clear c1 hgo
          go_wp2_with fail
          go_roundg g
          case rel => exact ⟨y, rfl, by rw [HB2.out], by omega, hy37, HG2.out, rfl⟩
          case measure => omega
        have c1i : ¬ (h : Int) < p := by omega
        by_cases c2 : h = p
        · have c2i : (h : Int) = p := by omega
          by_cases c3 : l = 0
          · have c3i : (l : Int) = 0 := by omega
            have hgo := HGO.out
            simp only [Bool.false_eq_true, if_false] at hgo
            rw [if_pos (HT.out.2 (.inr ⟨c2, c3⟩))] at hgo
            have HG2 := Lib.hid hgo
            clear c1 c2 c3 hgo
            go_wp2_with fail
            go_roundg g
            case rel => exact ⟨y, rfl, by rw [HB2.out], by omega, hy37, HG2.out, rfl⟩
            case measure => omega
          · have c3i : ¬ (l : Int) = 0 := by omega
            have hgo := HGO.out
            simp only [Bool.false_eq_true, if_false] at hgo
            rw [if_neg (fun h => ((HT.out.1 h).elim c1 (fun h6 => c3 h6.2)))] at hgo
            have HG2 := Lib.hid hgo
            clear c1 c2 c3 hgo
            go_wp2_with fail
            go_roundg g
            case rel => exact ⟨x, rfl, by rw [HB2.out], by omega, hx, HG2.out, rfl⟩
            case measure => omega
        · have c2i : ¬ (h : Int) = p := by omega
          have hgo := HGO.out
          simp only [Bool.false_eq_true, if_false] at hgo
          rw [if_neg (fun h => ((HT.out.1 h).elim c1 (fun h6 => c2 h6.1)))] at hgo
          have HG2 := Lib.hid hgo
          clear c1 c2 hgo
          go_wp2_with fail
          go_roundg g
          case rel => exact ⟨x, rfl, by rw [HB2.out], by omega, hx, HG2.out, rfl⟩
          case measure => omega
      | true =>
        obtain ⟨c, hc⟩ : ∃ k, l * y / 18446744073709551616 = k := ⟨_, rfl⟩
        obtain ⟨m, hm⟩ : ∃ k, l * y % 18446744073709551616 = k := ⟨_, rfl⟩
        have M2 := Lib.hid (fun W => mul64_any l y c m hl64 (by omega) hc hm W)
        have hT := beh_three y h l c m p HY.out.1 HY.out.2 hc hm
        obtain ⟨q, hq⟩ : ∃ k, h * y = k := ⟨_, rfl⟩
        have hqi : (h : Int) * (y : Int) = (q : Int) := by rw [← hq]; simp
        have hq2 : q ≤ 1023 * 2 ^ 37 := by rw [← hq]; exact Nat.mul_le_mul h10 (by omega)
        have hc2 : c ≤ 2 ^ 37 := by
          rw [← hc]
          have h5 : l * y ≤ 18446744073709551616 * y := Nat.mul_le_mul_right _ (by omega)
          have h6 : l * y / 18446744073709551616 ≤ y := Nat.div_le_of_le_mul h5
          omega
        rw [hq] at hT
        obtain ⟨H, hH⟩ : ∃ k, q + c = k := ⟨_, rfl⟩
        have hHi : (q : Int) + (c : Int) = (H : Int) := by omega
        rw [hH] at hT
        obtain ⟨D, hD⟩ : ∃ k, p * 4294967296 = k := ⟨_, rfl⟩
        have hDi : (p : Int) * 4294967296 = (D : Int) := by omega
        rw [hD] at hT
        have HT := Lib.hid hT
        clear hc hm hq hT hH hD
        go_wp2_with fail
        refine (M1.out _).mono ?_
        rintro e W' ⟨rfl, rfl⟩
        go_wp2_with fail
        refine (M2.out _).mono ?_
        rintro e W' ⟨rfl, rfl⟩
        by_cases c1 : H < D
        · have c1i : (H : Int) < D := by omega
          have hgo := HGO.out
          simp only [if_true] at hgo
          rw [if_pos (HT.out.2 (.inl c1))] at hgo
          have HG2 := Lib.hid hgo
          clear c1 hgo
          go_wp2_with fail
          go_roundg g
          case rel => exact ⟨y, rfl, by rw [HB2.out], by omega, hy37, HG2.out, rfl⟩
          case measure => omega
        have c1i : ¬ (H : Int) < D := by omega
        by_cases c2 : H = D
        · have c2i : (H : Int) = D := by omega
          by_cases c3 : m = 0
          · have c3i : (m : Int) = 0 := by omega
            have hgo := HGO.out
            simp only [if_true] at hgo
            rw [if_pos (HT.out.2 (.inr ⟨c2, c3⟩))] at hgo
            have HG2 := Lib.hid hgo
            clear c1 c2 c3 hgo
            go_wp2_with fail
            go_roundg g
            case rel => exact ⟨y, rfl, by rw [HB2.out], by omega, hy37, HG2.out, rfl⟩
            case measure => omega
          · have c3i : ¬ (m : Int) = 0 := by omega
            have hgo := HGO.out
            simp only [if_true] at hgo
            rw [if_neg (fun h => ((HT.out.1 h).elim c1 (fun h6 => c3 h6.2)))] at hgo
            have HG2 := Lib.hid hgo
            clear c1 c2 c3 hgo
            go_wp2_with fail
            go_roundg g
            case rel => exact ⟨x, rfl, by rw [HB2.out], by omega, hx, HG2.out, rfl⟩
            case measure => omega
        · have c2i : ¬ (H : Int) = D := by omega
          have hgo := HGO.out
          simp only [if_true] at hgo
          rw [if_neg (fun h => ((HT.out.1 h).elim c1 (fun h6 => c2 h6.1)))] at hgo
          have HG2 := Lib.hid hgo
          clear c1 c2 hgo
          go_wp2_with fail
          go_roundg g
          case rel => exact ⟨x, rfl, by rw [HB2.out], by omega, hx, HG2.out, rfl⟩
          case measure => omega
end Go.Proofs.Ytgceepjfnncilaa
