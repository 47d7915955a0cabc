/- The document's AES: Times. The document's AES: Sub. The document's AES: Box. The document's AES: the words of a key, as one row of bytes: the plain law. -/
import Derived.Test.YtkblkdojmfgneaaRAesL
import Derived.Test.YtkblkdojmfgneaaCtrA
namespace Go.Proofs.Ytkblkdojmfgneaa
open Go.RowKit

theorem i64_xor_nat (a b : Nat) (ha : a < 9223372036854775808) (hb : b < 9223372036854775808) : bits .xor .i64 (a : Int) (b : Int) = ((a ^^^ b : Nat) : Int) := by
  have hx : a ^^^ b < 2 ^ 63 := Nat.xor_lt_two_pow (by omega) (by omega)
  have e1 : (BitVec.ofInt 64 (a : Int)).toNat = a := by rw [BitVec.ofInt_natCast, BitVec.toNat_ofNat]; exact Nat.mod_eq_of_lt (by omega)
  have e2 : (BitVec.ofInt 64 (b : Int)).toNat = b := by rw [BitVec.ofInt_natCast, BitVec.toNat_ofNat]; exact Nat.mod_eq_of_lt (by omega)
  show IntKind.i64.wrap ((BitVec.ofInt 64 (a : Int) ^^^ BitVec.ofInt 64 (b : Int)).toNat : Int) = _
  rw [BitVec.toNat_xor, e1, e2]
  simp [IntKind.wrap, IntKind.bits, IntKind.signed]
  omega
set_option maxHeartbeats 4000000 in
set_option maxRecDepth 20000 in
theorem rtimes_any (a b : Nat) (ha : a < 256) (hb : b < 256) (w : World) : Calls Try.prog 84 #[.int .u8 (a : Int), .int .u8 (b : Int)] w fun e w' => e = .returned (.int .u8 ((rTimes a b : Nat) : Int)) ∧ w' = w := by
  obtain ⟨P, hP⟩ : ∃ P, rt1 a b 8 0 = P := ⟨_, rfl⟩
  obtain ⟨R, hR⟩ : ∃ P, rTimes a b = P := ⟨_, rfl⟩
  have hR2 : rt2 7 P % 256 = R := by rw [← hP, ← hR]; rfl
  rw [hR]
  have HP := Lib.hid hP; have HR2 := Lib.hid hR2
  clear hP hR hR2
  go_enter Try.func84, Try.ntmps84
  go_wp2_with fail
  go_loopg [5, 6] 8 (fun gk t5 t6 wr => ∃ i p : Nat, i + gk = 8 ∧ t5 = .int .i64 (p : Int) ∧ t6 = .int .i64 (i : Int) ∧ p < 32768 ∧ rt1 a b gk p = P ∧ w = wr)
  case atStart => exact ⟨0, 0, rfl, rfl, rfl, by decide, HP.out, rfl⟩
  case round =>
    clear HP
    obtain ⟨i, p, hi, rfl, rfl, hp, hgo, hwr⟩ := hrel
    subst hwr
    cases gk with
    | zero =>
      obtain rfl : i = 8 := by omega
      rw [rt1] at hgo
      subst hgo
      clear hi
      go_wp2_with fail
      go_loopg [5, 7] 7 (fun gn t5 t7 wr => ∃ p i : Nat, i = gn + 7 ∧ gn ≤ 7 ∧ t5 = .int .i64 (p : Int) ∧ t7 = .int .i64 (i : Int) ∧ p < 32768 ∧ rt2 gn p % 256 = R ∧ w = wr)
      case atStart => exact ⟨p, 14, rfl, by decide, rfl, rfl, hp, HR2.out, rfl⟩
      case round =>
        clear HR2 hp
        obtain ⟨p, i, hi, hg7, rfl, rfl, hp, hgo, hwr⟩ := hrel
        subst hwr
        cases gk with
        | zero =>
          rw [rt2] at hgo
          subst hgo
          obtain rfl : i = 7 := by omega
          clear hi
          go_wp2_with fail
          go_ret
          exact ⟨rfl, rfl⟩
        | succ g =>
          rw [rt2, reck_eq, show g + 8 = i from by omega] at hgo
          have hi8 : (8 : Int) ≤ (i : Int) := by omega
          have him : (i : Int) - 8 = (g : Int) := by omega
          obtain ⟨q, hq⟩ : ∃ q, p / 2 ^ i = q := ⟨_, rfl⟩
          have hqi : (p : Int) / 2 ^ i = (q : Int) := by rw [← hq]; simp
          rw [hq] at hgo
          have hg6 : g ≤ 6 := by omega
          obtain ⟨j, hj⟩ : ∃ j, g + 7 = j := ⟨_, rfl⟩
          have hii : (i : Int) - 1 = (j : Int) := by omega
          have HJ := Lib.hid hj
          clear hq hi hj
          by_cases h1 : q % 2 = 1
          · rw [if_pos h1] at hgo
            have h1i : (q : Int) % 2 = 1 := by omega
            have hsl : 283 * 2 ^ g < 32768 := by
              have e : 283 * 2 ^ g ≤ 283 * 2 ^ 6 := Nat.mul_le_mul_left _ (Nat.pow_le_pow_right (by decide) hg6)
              omega
            obtain ⟨s, hs⟩ : ∃ s, 283 * 2 ^ g = s := ⟨_, rfl⟩
            have hsi : (283 : Int) * 2 ^ g = (s : Int) := by rw [← hs]; simp
            rw [hs] at hgo hsl
            have e1 := i64_xor_nat p s (by omega) (by omega)
            have hxl : p ^^^ s < 32768 := Nat.xor_lt_two_pow (n := 15) hp hsl
            obtain ⟨x, hx⟩ : ∃ x, p ^^^ s = x := ⟨_, rfl⟩
            rw [hx] at hgo e1 hxl
            have HG := Lib.hid hgo
            clear h1 hs hx hgo
            go_wp2_with fail
            go_roundg g
            case rel => exact ⟨x, j, HJ.out.symm, by omega, rfl, rfl, hxl, HG.out, rfl⟩
            case measure => omega
          · rw [if_neg h1] at hgo
            have h1i : ¬ (q : Int) % 2 = 1 := by omega
            have HG := Lib.hid hgo
            clear h1 hgo
            go_wp2_with fail
            go_roundg g
            case rel => exact ⟨p, j, HJ.out.symm, by omega, rfl, rfl, hp, HG.out, rfl⟩
            case measure => omega
    | succ g =>
      rw [rt1, show 7 - g = i by omega, reck_eq] at hgo
      have hi8 : (i : Int) < 8 := by omega
      obtain ⟨q, hq⟩ : ∃ q, b / 2 ^ i = q := ⟨_, rfl⟩
      have hqi : (b : Int) / 2 ^ i = (q : Int) := by rw [← hq]; simp
      rw [hq] at hgo
      have HI := Lib.hid hi
      clear hq hi
      by_cases h1 : q % 2 = 1
      · rw [if_pos h1] at hgo
        have h1i : (q : Int) % 2 = 1 := by omega
        have hsl : a * 2 ^ i < 32768 := by
          have e : a * 2 ^ i ≤ a * 2 ^ 7 := Nat.mul_le_mul_left _ (Nat.pow_le_pow_right (by decide) (by omega))
          omega
        obtain ⟨s, hs⟩ : ∃ s, a * 2 ^ i = s := ⟨_, rfl⟩
        have hsi : (a : Int) * 2 ^ i = (s : Int) := by rw [← hs]; simp
        rw [hs] at hgo hsl
        have e1 := i64_xor_nat p s (by omega) (by omega)
        have hxl : p ^^^ s < 32768 := Nat.xor_lt_two_pow (n := 15) hp hsl
        obtain ⟨x, hx⟩ : ∃ x, p ^^^ s = x := ⟨_, rfl⟩
        rw [hx] at hgo e1 hxl
        have HG := Lib.hid hgo
        clear h1 hs hx hgo
        go_wp2_with fail
        go_roundg g
        case rel => exact ⟨i + 1, x, by have := HI.out; omega, by simp, by simp, hxl, HG.out, rfl⟩
        case measure => omega
      · rw [if_neg h1] at hgo
        have h1i : ¬ (q : Int) % 2 = 1 := by omega
        have HG := Lib.hid hgo
        clear h1 hgo
        go_wp2_with fail
        go_roundg g
        case rel => exact ⟨i + 1, p, by have := HI.out; omega, by simp, by simp, hp, HG.out, rfl⟩
        case measure => omega
end Go.Proofs.Ytkblkdojmfgneaa

namespace Go.Proofs.Ytkblkdojmfgneaa
open Go.RowKit

set_option maxHeartbeats 8000000 in
set_option maxRecDepth 20000 in
theorem rsub_any (a : Nat) (ha : a < 256) (w : World) : Calls Try.prog 83 #[.int .u8 (a : Int)] w fun e w' => e = .returned (.int .u8 ((subN a : Nat) : Int)) ∧ Below w.heap.size w w' := by
  obtain ⟨P, hP⟩ : ∃ P, powGo 7 1 a = P := ⟨_, rfl⟩
  obtain ⟨R, hR⟩ : ∃ P, subN a = P := ⟨_, rfl⟩
  have hR2 : affGo P 8 0 % 256 = R := by rw [← hP, ← hR]; rfl
  rw [hR]
  have HP := Lib.hid hP; have HR2 := Lib.hid hR2
  clear hP hR hR2
  go_enter Try.func83, Try.ntmps83
  go_wp2_with fail
  go_loopg [3, 4, 5] 7 (fun gk t3 t4 t5 wr => ∃ i p q : Nat, i + gk = 8 ∧ t3 = .int .u8 (p : Int) ∧ t4 = .int .u8 (q : Int) ∧ t5 = .int .i64 (i : Int) ∧ p < 256 ∧ q < 256 ∧ powGo gk p q = P ∧ Below w.heap.size w wr)
  case atStart => exact ⟨1, 1, a, rfl, rfl, rfl, rfl, by decide, ha, HP.out, Below.refl _ _⟩
  case round =>
    clear HP
    obtain ⟨i, p, q, hi, rfl, rfl, rfl, hp, hq, hgo, HB⟩ := hrel
    have HBs := HB.size
    cases gk with
    | zero =>
      obtain rfl : i = 8 := by omega
      rw [powGo] at hgo
      subst hgo
      clear hi
      obtain ⟨c, hcc⟩ : ∃ c, p = c := ⟨_, rfl⟩
      rw [hcc] at HR2 hp ⊢
      have hc := hp
      clear hcc hp
      go_wp2_with fail
      go_loopg [7, 8] 8 (fun gk t7 t8 wr => ∃ i o : Nat, i + gk = 8 ∧ t7 = .int .i64 (o : Int) ∧ t8 = .int .i64 (i : Int) ∧ o < 2 ^ i ∧ affGo c gk o % 256 = R ∧ Below w.heap.size w wr)
      case atStart => exact ⟨0, 0, rfl, rfl, rfl, by decide, HR2.out, HB⟩
      case round =>
        clear HR2 HB HBs
        obtain ⟨i, o, hi, rfl, rfl, ho, hgo, HB⟩ := hrel
        have HBs := HB.size
        cases gk with
        | zero =>
          obtain rfl : i = 8 := by omega
          have ho' : o < 256 := ho
          rw [affGo, Nat.mod_eq_of_lt ho'] at hgo
          subst hgo
          clear hi ho
          go_wp2_with fail
          go_ret
          exact ⟨rfl, HB⟩
        | succ g =>
          have hi8 : (i : Int) < 8 := by omega
          rw [affGo, reck_eq, show 7 - g = i by omega] at hgo
          unfold bitN at hgo
          obtain ⟨s0, hs0⟩ : ∃ s, c / 2 ^ i = s := ⟨_, rfl⟩
          have is0 : (c : Int) / 2 ^ i = (s0 : Int) := by rw [← hs0]; simp
          have l0 : s0 < 256 := by rw [← hs0]; exact Nat.lt_of_le_of_lt (Nat.div_le_self _ _) hc
          obtain ⟨s9, hs9⟩ : ∃ s, 99 / 2 ^ i = s := ⟨_, rfl⟩
          have is9 : (99 : Int) / 2 ^ i = (s9 : Int) := by rw [← hs9]; simp
          have l9 : s9 < 256 := by rw [← hs9]; exact Nat.lt_of_le_of_lt (Nat.div_le_self _ _) (by decide)
          rw [hs0, hs9] at hgo
          obtain ⟨a4, ha4⟩ : ∃ a, i + 4 = a := ⟨_, rfl⟩
          have ia4 : (i : Int) + 4 = (a4 : Int) := by omega
          obtain ⟨r4, hr4⟩ : ∃ r, (i + 4) % 8 = r := ⟨_, rfl⟩
          have ir4 : (a4 : Int) % 8 = (r4 : Int) := by omega
          have r84 : r4 < 64 := by omega
          obtain ⟨s4, hs4⟩ : ∃ s, c / 2 ^ r4 = s := ⟨_, rfl⟩
          have is4 : (c : Int) / 2 ^ r4 = (s4 : Int) := by rw [← hs4]; simp
          have l4 : s4 < 256 := by rw [← hs4]; exact Nat.lt_of_le_of_lt (Nat.div_le_self _ _) hc
          rw [hr4, hs4] at hgo
          obtain ⟨a5, ha5⟩ : ∃ a, i + 5 = a := ⟨_, rfl⟩
          have ia5 : (i : Int) + 5 = (a5 : Int) := by omega
          obtain ⟨r5, hr5⟩ : ∃ r, (i + 5) % 8 = r := ⟨_, rfl⟩
          have ir5 : (a5 : Int) % 8 = (r5 : Int) := by omega
          have r85 : r5 < 64 := by omega
          obtain ⟨s5, hs5⟩ : ∃ s, c / 2 ^ r5 = s := ⟨_, rfl⟩
          have is5 : (c : Int) / 2 ^ r5 = (s5 : Int) := by rw [← hs5]; simp
          have l5 : s5 < 256 := by rw [← hs5]; exact Nat.lt_of_le_of_lt (Nat.div_le_self _ _) hc
          rw [hr5, hs5] at hgo
          obtain ⟨a6, ha6⟩ : ∃ a, i + 6 = a := ⟨_, rfl⟩
          have ia6 : (i : Int) + 6 = (a6 : Int) := by omega
          obtain ⟨r6, hr6⟩ : ∃ r, (i + 6) % 8 = r := ⟨_, rfl⟩
          have ir6 : (a6 : Int) % 8 = (r6 : Int) := by omega
          have r86 : r6 < 64 := by omega
          obtain ⟨s6, hs6⟩ : ∃ s, c / 2 ^ r6 = s := ⟨_, rfl⟩
          have is6 : (c : Int) / 2 ^ r6 = (s6 : Int) := by rw [← hs6]; simp
          have l6 : s6 < 256 := by rw [← hs6]; exact Nat.lt_of_le_of_lt (Nat.div_le_self _ _) hc
          rw [hr6, hs6] at hgo
          obtain ⟨a7, ha7⟩ : ∃ a, i + 7 = a := ⟨_, rfl⟩
          have ia7 : (i : Int) + 7 = (a7 : Int) := by omega
          obtain ⟨r7, hr7⟩ : ∃ r, (i + 7) % 8 = r := ⟨_, rfl⟩
          have ir7 : (a7 : Int) % 8 = (r7 : Int) := by omega
          have r87 : r7 < 64 := by omega
          obtain ⟨s7, hs7⟩ : ∃ s, c / 2 ^ r7 = s := ⟨_, rfl⟩
          have is7 : (c : Int) / 2 ^ r7 = (s7 : Int) := by rw [← hs7]; simp
          have l7 : s7 < 256 := by rw [← hs7]; exact Nat.lt_of_le_of_lt (Nat.div_le_self _ _) hc
          rw [hr7, hs7] at hgo
          obtain ⟨u1, hu1⟩ : ∃ u, s0 + s4 = u := ⟨_, rfl⟩
          have iu1 : (s0 : Int) + (s4 : Int) = (u1 : Int) := by omega
          rw [hu1] at hgo
          obtain ⟨u2, hu2⟩ : ∃ u, u1 + s5 = u := ⟨_, rfl⟩
          have iu2 : (u1 : Int) + (s5 : Int) = (u2 : Int) := by omega
          rw [hu2] at hgo
          obtain ⟨u3, hu3⟩ : ∃ u, u2 + s6 = u := ⟨_, rfl⟩
          have iu3 : (u2 : Int) + (s6 : Int) = (u3 : Int) := by omega
          rw [hu3] at hgo
          obtain ⟨u4, hu4⟩ : ∃ u, u3 + s7 = u := ⟨_, rfl⟩
          have iu4 : (u3 : Int) + (s7 : Int) = (u4 : Int) := by omega
          rw [hu4] at hgo
          obtain ⟨u5, hu5⟩ : ∃ u, u4 + s9 = u := ⟨_, rfl⟩
          have iu5 : (u4 : Int) + (s9 : Int) = (u5 : Int) := by omega
          rw [hu5] at hgo
          obtain ⟨bt, hbt⟩ : ∃ b, u5 % 2 = b := ⟨_, rfl⟩
          have ibt : (u5 : Int) % 2 = (bt : Int) := by omega
          rw [hbt] at hgo
          have hb2 : bt ≤ 1 := by omega
          have hpw : bt * 2 ^ i ≤ 1 * 2 ^ i := Nat.mul_le_mul_right _ hb2
          obtain ⟨v, hv⟩ : ∃ v, bt * 2 ^ i = v := ⟨_, rfl⟩
          have iv : (bt : Int) * 2 ^ i = (v : Int) := by rw [← hv]; simp
          have hov : o + v < 2 ^ (i + 1) := by rw [Nat.pow_succ]; omega
          have h28 : 2 ^ i ≤ 2 ^ 8 := Nat.pow_le_pow_right (by decide) (by omega)
          rw [hv] at hgo
          obtain ⟨x, hx⟩ : ∃ x, o + v = x := ⟨_, rfl⟩
          have ix : (o : Int) + (v : Int) = (x : Int) := by omega
          have hv256 : v ≤ 256 := by omega
          have ho256 : o ≤ 256 := by omega
          rw [hx] at hgo hov
          have HG := Lib.hid hgo; have HI := Lib.hid hi; have HO := Lib.hid hov
          clear hs0 hs9 ha4 ha5 ha6 ha7 hr4 hr5 hr6 hr7 hs4 hs5 hs6 hs7 hu1 hu2 hu3 hu4 hu5 hbt hpw hv hov h28 hx hgo hi ho
          go_wp2_with fail
          refine wp_region_gr (by kernel_rfl) (by kernel_rfl) ?_
          repeat (first
            | go_big_quiet_skip
            | ((refine BigFrame.wpQuiet_want rfl (fun K hK => quiet_mk ?_)); apply Exists.intro; refine ⟨fun wq hq => ?_, hK _ ?_⟩
               · go_simp; (try simp only [↓IntWalk.iteOmega]); (try go_bits)
                 first | done | rfl | exact ⟨rfl, rfl⟩ | exact ⟨trivial, rfl⟩
               clear hK K; (try simp only [Act.put, List.setIfInBounds_toArray, List.set_cons_zero, List.set_cons_succ])))
          refine wpQuiet_nil ?_
          intro W2 hw2
          have HB2 := Below.thn HB hw2.out HBs
          clear hw2 HB HBs
          simp only [Exit.then]
          apply_assumption
          go_wp2_with fail
          go_roundg g
          case rel => exact ⟨i + 1, x, by have := HI.out; omega, rfl, by simp, HO.out, HG.out, HB2⟩
          case measure => omega
    | succ g =>
      rw [powGo, reck_eq] at hgo
      obtain ⟨s, hs⟩ : ∃ s, rTimes q q = s := ⟨_, rfl⟩
      have hsl : s < 256 := by rw [← hs]; exact rTimes_lt _ _
      have c1 := fun W => rtimes_any q q hq hq W
      rw [hs] at hgo c1
      rw [reck_eq] at hgo
      obtain ⟨t, ht⟩ : ∃ t, rTimes p s = t := ⟨_, rfl⟩
      have htl : t < 256 := by rw [← ht]; exact rTimes_lt _ _
      have c2 := fun W => rtimes_any p s hp hsl W
      rw [ht] at hgo c2
      have hi8 : (i : Int) < 8 := by omega
      have HG := Lib.hid hgo; have HI := Lib.hid hi; have C1 := Lib.hid c1; have C2 := Lib.hid c2
      clear hs ht hgo hi c1 c2
      go_wp2_with fail
      refine (C1.out _).mono ?_
      rintro e W1 ⟨rfl, hw1⟩
      subst hw1
      go_wp2_with fail
      refine (C2.out _).mono ?_
      rintro e W1 ⟨rfl, hw1⟩
      subst hw1
      go_wp2_with fail
      go_roundg g
      case rel => exact ⟨i + 1, t, s, by have := HI.out; omega, rfl, rfl, by simp, htl, hsl, HG.out, HB⟩
      case measure => omega
end Go.Proofs.Ytkblkdojmfgneaa

namespace Go.Proofs.Ytkblkdojmfgneaa
open Go.RowKit

theorem subN_at (a : Nat) (h : a < 256) : subN a = (boxL.getD a 0).toNat := by
  have h5 := List.all_eq_true.1 subN_box a (List.mem_range.2 h)
  rw [beq_iff_eq] at h5
  exact h5
theorem own_row_bytes {w : World} {base n c : Nat} {a : Option Addr} {l : List UInt8} (h : w.ownsRow base 5 1 (.slice a n c) n (l.map bval)) (hn : 0 < n) (hl : l.length = n) : ∃ g, a = some ⟨g, 0, none⟩ ∧ base ≤ g ∧ BRow w g l := by
  rcases h.2 with ⟨_, h5⟩ | ⟨q, c, cur, h5, h6, h7, h8, h9, h10, h11⟩
  · omega
  · simp only [Value.slice.injEq] at h5
    refine ⟨q, h5.1, h6, (Array.getElem?_eq_some_iff.1 h7).1, fun i hi => ?_, fun i hi => ?_⟩
    · have h12 : (cur.toList.take (n * 1))[i]? = cur.toList[i]? := List.getElem?_take_of_lt (by omega)
      rw [h11] at h12
      have B : Blk w q cur 5 := ⟨h7⟩
      rw [B.cell, ← Array.getElem?_toList, ← h12, List.getElem?_map, List.getD_eq_getElem?_getD, List.getElem?_eq_getElem hi]
      rfl
    · have B : Blk w q cur 5 := ⟨h7⟩
      exact B.frozen i
theorem take_snoc (l : List UInt8) (a : Nat) (h : a < l.length) : (l.take (a + 1)).map bval = (l.take a).map bval ++ [bval (l.getD a 0)] := by
  rw [List.take_add_one, List.map_append, List.getD_eq_getElem?_getD, List.getElem?_eq_getElem h]; rfl
set_option maxHeartbeats 8000000 in
set_option maxRecDepth 20000 in
theorem rbox_any (w : World) : Calls Try.prog 55 #[] w fun e w' => ∃ b c, e = .returned (.slice (some ⟨b, 0, none⟩) 256 c) ∧ w.heap.size ≤ b ∧ BRow w' b boxL ∧ Below w.heap.size w w' := by
  obtain ⟨i0, hi0, hz0, hz1, hz2⟩ := info_parts info5
  go_enter Try.func55, Try.ntmps55
  go_wp2_with fail
  go_loopg [1, 2] 256 (fun g t1 t2 wr => ∃ k : Nat, t2 = .int .i64 k ∧ k + g = 256 ∧ wr.ownsRow w.heap.size 5 1 t1 k ((boxL.take k).map bval) ∧ Below w.heap.size w wr)
  case atStart => exact ⟨0, rfl, by omega, World.ownsRow_nil _ _ _ _, Below.refl _ _⟩
  case round =>
    obtain ⟨k, rfl, hk, ho, HB⟩ := hrel
    have HBs := HB.size
    obtain ⟨a1, c1, h1⟩ := own_slice ho
    subst h1
    cases gk with
    | zero =>
      obtain rfl : k = 256 := by omega
      clear hk
      rw [List.take_of_length_le (by rw [boxL_len]; exact Nat.le_refl _)] at ho
      obtain ⟨g, he, hg, hR⟩ := own_row_bytes ho (by decide) boxL_len
      subst he
      go_wp2
      go_ret
      exact ⟨g, _, rfl, hg, hR, HB⟩
    | succ g =>
      have hk' : (k : Int) < 256 := by omega
      have hkl : k < 256 := by omega
      have hmod : (k : Int) % 256 = (k : Int) := by omega
      have hrow := take_snoc boxL k (by rw [boxL_len]; exact hkl)
      have hsub := fun W => rsub_any k hkl W
      rw [subN_at k hkl] at hsub
      obtain ⟨v, hv⟩ : ∃ v, boxL.getD k 0 = v := ⟨_, rfl⟩
      rw [hv] at hsub hrow
      have HK := Lib.hid hk; have HR := Lib.hid hrow; have HS := Lib.hid hsub
      clear hk hrow hsub hv
      go_wp2_with fail
      refine (HS.out _).mono ?_
      rintro e W1 ⟨rfl, hb⟩
      have HB1 := Below.thn HB hb HBs
      have ho1 := own_below ho hb
      have HBs1 := HB1.size
      have o2 := ho1.alloc (.cells #[.int .u8 ((v.toNat : Nat) : Int)] 5)
      clear hb HB ho HBs
      go_wp2_with (at_builtin; refine wpList_append_lies _ rfl _ _ 36 rfl w.heap.size 5 i0 _ 1 1 Try.underlying36 hi0 hz0 hz1 hz2 rfl (by decide) _ k ((boxL.take k).map bval) rfl o2 ⟨W1.heap.size, 0, none⟩ 1 1 [.int .u8 ((v.toNat : Nat) : Int)] rfl rfl (World.news_of_block (heap_alloc_new W1 _)) (by simp [Value.oneCell']) (by decide) ?c3 ?c4 ?c5 (W1.heap.size + 1) (by simp) ?_)
      case c3 => unfold maxLen; omega
      case c4 => omega
      case c5 => first | omega | (simp; omega)
      intro gg cc W3 ho3 hg3 hl3 hlt3
      have HB3 : Below w.heap.size w W3 := (HB1.alloc HBs1 _).grown hg3 (by simp; omega) (fun q hq => (ho1.lt q hq).1)
      clear o2 hg3 hl3 hlt3 ho1 HB1
      have ho3' : W3.ownsRow w.heap.size 5 1 (.slice (some ⟨gg, 0, none⟩) (k + 1) cc) (k + 1) ((boxL.take (k + 1)).map bval) := by rw [HR.out, List.map_take]; exact ho3
      clear ho3
      go_wp2_with fail
      go_roundg g
      case rel => exact ⟨k + 1, by simp, by have := HK.out; omega, ho3', HB3⟩
      case measure => omega
end Go.Proofs.Ytkblkdojmfgneaa

namespace Go.Proofs.Ytkblkdojmfgneaa

theorem words_old (key : List UInt8) (hk : key.length = 16) (i k : Nat) (hi : i < 4) (h4 : k < 4) : (keysN key 10).getD (4 * i + k) 0 = key.getD (4 * i + k) 0 := by
  have := keysN_get key hk 0 (4 * i + k) (by omega) 10 (by omega)
  rw [Nat.mul_zero, Nat.zero_add] at this
  exact this
theorem words_rest (key : List UInt8) (hk : key.length = 16) (i k : Nat) (h0 : 4 ≤ i) (h44 : i < 44) (hm : i % 4 ≠ 0) (h4 : k < 4) :
    (keysN key 10).getD (4 * i + k) 0 = (keysN key 10).getD (4 * (i - 4) + k) 0 ^^^ (keysN key 10).getD (4 * (i - 1) + k) 0 := by
  obtain ⟨r, hr⟩ : ∃ r, i / 4 = r + 1 := ⟨i / 4 - 1, by omega⟩
  obtain ⟨j, hj⟩ : ∃ j, 4 * (i % 4) + k = j := ⟨_, rfl⟩
  have e1 := keysN_get key hk (r + 1) j (by omega) 10 (by omega)
  have e2 := keysN_get key hk r j (by omega) 10 (by omega)
  have e3 := keysN_get key hk (r + 1) (j - 4) (by omega) 10 (by omega)
  rw [show 16 * (r + 1) + j = 4 * i + k by omega] at e1
  rw [show 16 * r + j = 4 * (i - 4) + k by omega] at e2
  rw [show 16 * (r + 1) + (j - 4) = 4 * (i - 1) + k by omega] at e3
  rw [e1, e2, e3, show keyR key (r + 1) = nextK (keyR key r) (turnL r) from rfl, nextK_get _ _ j (by omega), if_neg (by omega), if_neg (by omega)]
/-- The word ahead, turned. -/
def turnedW (F : List UInt8) (i : Nat) (con : UInt8) : List UInt8 :=
  [subL (F.getD (4 * (i - 1) + 1) 0) ^^^ con, subL (F.getD (4 * (i - 1) + 2) 0), subL (F.getD (4 * (i - 1) + 3) 0), subL (F.getD (4 * (i - 1)) 0)]
theorem words_turn (key : List UInt8) (hk : key.length = 16) (r k : Nat) (hr : r < 10) (h4 : k < 4) :
    (keysN key 10).getD (4 * (4 * (r + 1)) + k) 0 = (keysN key 10).getD (4 * (4 * (r + 1) - 4) + k) 0 ^^^ (turnedW (keysN key 10) (4 * (r + 1)) (turnL r)).getD k 0 := by
  have e1 := keysN_get key hk (r + 1) k (by omega) 10 (by omega)
  have e2 := keysN_get key hk r k (by omega) 10 (by omega)
  have f0 := keysN_get key hk r 12 (by omega) 10 (by omega)
  have f1 := keysN_get key hk r 13 (by omega) 10 (by omega)
  have f2 := keysN_get key hk r 14 (by omega) 10 (by omega)
  have f3 := keysN_get key hk r 15 (by omega) 10 (by omega)
  rw [show 4 * (4 * (r + 1)) + k = 16 * (r + 1) + k by omega, e1, show 4 * (4 * (r + 1) - 4) + k = 16 * r + k by omega, e2]
  unfold turnedW
  rw [show 4 * (4 * (r + 1) - 1) = 16 * r + 12 by omega, show 16 * r + 12 + 1 = 16 * r + 13 by omega, show 16 * r + 12 + 2 = 16 * r + 14 by omega, show 16 * r + 12 + 3 = 16 * r + 15 by omega, f0, f1, f2, f3]
  rw [show keyR key (r + 1) = nextK (keyR key r) (turnL r) from rfl, nextK_get _ _ k (by omega)]
  obtain rfl | rfl | rfl | rfl : k = 0 ∨ k = 1 ∨ k = 2 ∨ k = 3 := by omega
  · rw [if_pos rfl, UInt8.xor_assoc]; rfl
  · rfl
  · rfl
  · rfl
theorem flat_snoc (F : List UInt8) (i : Nat) (h : 4 * i + 4 ≤ F.length) : (F.take (4 * (i + 1))).map bval = (F.take (4 * i)).map bval ++ [bval (F.getD (4 * i) 0), bval (F.getD (4 * i + 1) 0), bval (F.getD (4 * i + 2) 0), bval (F.getD (4 * i + 3) 0)] := by
  rw [show 4 * (i + 1) = 4 * i + 3 + 1 by omega, take_snoc F _ (by omega), show 4 * i + 3 = 4 * i + 2 + 1 by omega, take_snoc F _ (by omega), show 4 * i + 2 = 4 * i + 1 + 1 by omega, take_snoc F _ (by omega), take_snoc F _ (by omega)]
  simp
end Go.Proofs.Ytkblkdojmfgneaa
