/- The document's AES: Sub. -/
import Derived.Test.YtkblkdojmfgneaaRAes1
namespace Go.Proofs.Ytkblkdojmfgneaa
open Go.RowKit

set_option maxHeartbeats 8000000 in
set_option maxRecDepth 20000 in
theorem rsub_any (a : Nat) (ha : a < 256) (w : World) : Calls Try.prog 83 #[.int .u8 (a : Int)] w fun e w' => e = .returned (.int .u8 ((subN a : Nat) : Int)) ∧ Below w.heap.size w w' := by
  obtain ⟨P, hP⟩ : ∃ P, powGo 7 1 a = P := ⟨_, rfl⟩
  obtain ⟨R, hR⟩ : ∃ P, subN a = P := ⟨_, rfl⟩
  have hR2 : affGo P 8 0 % 256 = R := by rw [← hP, ← hR]; rfl
  rw [hR]
  have HP := Lib.hid hP; have HR2 := Lib.hid hR2
  clear hP hR hR2
  go_enter Try.func83, Try.ntmps83
  go_wp2_with fail
  go_loopg [3, 4, 5] 7 (fun gk t3 t4 t5 wr => ∃ i p q : Nat, i + gk = 8 ∧ t3 = .int .u8 (p : Int) ∧ t4 = .int .u8 (q : Int) ∧ t5 = .int .i64 (i : Int) ∧ p < 256 ∧ q < 256 ∧ powGo gk p q = P ∧ Below w.heap.size w wr)
  case atStart => exact ⟨1, 1, a, rfl, rfl, rfl, rfl, by decide, ha, HP.out, Below.refl _ _⟩
  case round =>
    clear HP
    obtain ⟨i, p, q, hi, rfl, rfl, rfl, hp, hq, hgo, HB⟩ := hrel
    have HBs := HB.size
    cases gk with
    | zero =>
      obtain rfl : i = 8 := by omega
      rw [powGo] at hgo
      subst hgo
      clear hi
      obtain ⟨c, hcc⟩ : ∃ c, p = c := ⟨_, rfl⟩
      rw [hcc] at HR2 hp ⊢
      have hc := hp
      clear hcc hp
      go_wp2_with fail
      go_loopg [7, 8] 8 (fun gk t7 t8 wr => ∃ i o : Nat, i + gk = 8 ∧ t7 = .int .i64 (o : Int) ∧ t8 = .int .i64 (i : Int) ∧ o < 2 ^ i ∧ affGo c gk o % 256 = R ∧ Below w.heap.size w wr)
      case atStart => exact ⟨0, 0, rfl, rfl, rfl, by decide, HR2.out, HB⟩
      case round =>
        clear HR2 HB HBs
        obtain ⟨i, o, hi, rfl, rfl, ho, hgo, HB⟩ := hrel
        have HBs := HB.size
        cases gk with
        | zero =>
          obtain rfl : i = 8 := by omega
          have ho' : o < 256 := ho
          rw [affGo, Nat.mod_eq_of_lt ho'] at hgo
          subst hgo
          clear hi ho
          go_wp2_with fail
          go_ret
          exact ⟨rfl, HB⟩
        | succ g =>
          have hi8 : (i : Int) < 8 := by omega
          rw [affGo, reck_eq, show 7 - g = i by omega] at hgo
          unfold bitN at hgo
          obtain ⟨s0, hs0⟩ : ∃ s, c / 2 ^ i = s := ⟨_, rfl⟩
          have is0 : (c : Int) / 2 ^ i = (s0 : Int) := by rw [← hs0]; simp
          have l0 : s0 < 256 := by rw [← hs0]; exact Nat.lt_of_le_of_lt (Nat.div_le_self _ _) hc
          obtain ⟨s9, hs9⟩ : ∃ s, 99 / 2 ^ i = s := ⟨_, rfl⟩
          have is9 : (99 : Int) / 2 ^ i = (s9 : Int) := by rw [← hs9]; simp
          have l9 : s9 < 256 := by rw [← hs9]; exact Nat.lt_of_le_of_lt (Nat.div_le_self _ _) (by decide)
          rw [hs0, hs9] at hgo
          obtain ⟨a4, ha4⟩ : ∃ a, i + 4 = a := ⟨_, rfl⟩
          have ia4 : (i : Int) + 4 = (a4 : Int) := by omega
          obtain ⟨r4, hr4⟩ : ∃ r, (i + 4) % 8 = r := ⟨_, rfl⟩
          have ir4 : (a4 : Int) % 8 = (r4 : Int) := by omega
          have r84 : r4 < 64 := by omega
          obtain ⟨s4, hs4⟩ : ∃ s, c / 2 ^ r4 = s := ⟨_, rfl⟩
          have is4 : (c : Int) / 2 ^ r4 = (s4 : Int) := by rw [← hs4]; simp
          have l4 : s4 < 256 := by rw [← hs4]; exact Nat.lt_of_le_of_lt (Nat.div_le_self _ _) hc
          rw [hr4, hs4] at hgo
          obtain ⟨a5, ha5⟩ : ∃ a, i + 5 = a := ⟨_, rfl⟩
          have ia5 : (i : Int) + 5 = (a5 : Int) := by omega
          obtain ⟨r5, hr5⟩ : ∃ r, (i + 5) % 8 = r := ⟨_, rfl⟩
          have ir5 : (a5 : Int) % 8 = (r5 : Int) := by omega
          have r85 : r5 < 64 := by omega
          obtain ⟨s5, hs5⟩ : ∃ s, c / 2 ^ r5 = s := ⟨_, rfl⟩
          have is5 : (c : Int) / 2 ^ r5 = (s5 : Int) := by rw [← hs5]; simp
          have l5 : s5 < 256 := by rw [← hs5]; exact Nat.lt_of_le_of_lt (Nat.div_le_self _ _) hc
          rw [hr5, hs5] at hgo
          obtain ⟨a6, ha6⟩ : ∃ a, i + 6 = a := ⟨_, rfl⟩
          have ia6 : (i : Int) + 6 = (a6 : Int) := by omega
          obtain ⟨r6, hr6⟩ : ∃ r, (i + 6) % 8 = r := ⟨_, rfl⟩
          have ir6 : (a6 : Int) % 8 = (r6 : Int) := by omega
          have r86 : r6 < 64 := by omega
          obtain ⟨s6, hs6⟩ : ∃ s, c / 2 ^ r6 = s := ⟨_, rfl⟩
          have is6 : (c : Int) / 2 ^ r6 = (s6 : Int) := by rw [← hs6]; simp
          have l6 : s6 < 256 := by rw [← hs6]; exact Nat.lt_of_le_of_lt (Nat.div_le_self _ _) hc
          rw [hr6, hs6] at hgo
          obtain ⟨a7, ha7⟩ : ∃ a, i + 7 = a := ⟨_, rfl⟩
          have ia7 : (i : Int) + 7 = (a7 : Int) := by omega
          obtain ⟨r7, hr7⟩ : ∃ r, (i + 7) % 8 = r := ⟨_, rfl⟩
          have ir7 : (a7 : Int) % 8 = (r7 : Int) := by omega
          have r87 : r7 < 64 := by omega
          obtain ⟨s7, hs7⟩ : ∃ s, c / 2 ^ r7 = s := ⟨_, rfl⟩
          have is7 : (c : Int) / 2 ^ r7 = (s7 : Int) := by rw [← hs7]; simp
          have l7 : s7 < 256 := by rw [← hs7]; exact Nat.lt_of_le_of_lt (Nat.div_le_self _ _) hc
          rw [hr7, hs7] at hgo
          obtain ⟨u1, hu1⟩ : ∃ u, s0 + s4 = u := ⟨_, rfl⟩
          have iu1 : (s0 : Int) + (s4 : Int) = (u1 : Int) := by omega
          rw [hu1] at hgo
          obtain ⟨u2, hu2⟩ : ∃ u, u1 + s5 = u := ⟨_, rfl⟩
          have iu2 : (u1 : Int) + (s5 : Int) = (u2 : Int) := by omega
          rw [hu2] at hgo
          obtain ⟨u3, hu3⟩ : ∃ u, u2 + s6 = u := ⟨_, rfl⟩
          have iu3 : (u2 : Int) + (s6 : Int) = (u3 : Int) := by omega
          rw [hu3] at hgo
          obtain ⟨u4, hu4⟩ : ∃ u, u3 + s7 = u := ⟨_, rfl⟩
          have iu4 : (u3 : Int) + (s7 : Int) = (u4 : Int) := by omega
          rw [hu4] at hgo
          obtain ⟨u5, hu5⟩ : ∃ u, u4 + s9 = u := ⟨_, rfl⟩
          have iu5 : (u4 : Int) + (s9 : Int) = (u5 : Int) := by omega
          rw [hu5] at hgo
          obtain ⟨bt, hbt⟩ : ∃ b, u5 % 2 = b := ⟨_, rfl⟩
          have ibt : (u5 : Int) % 2 = (bt : Int) := by omega
          rw [hbt] at hgo
          have hb2 : bt ≤ 1 := by omega
          have hpw : bt * 2 ^ i ≤ 1 * 2 ^ i := Nat.mul_le_mul_right _ hb2
          obtain ⟨v, hv⟩ : ∃ v, bt * 2 ^ i = v := ⟨_, rfl⟩
          have iv : (bt : Int) * 2 ^ i = (v : Int) := by rw [← hv]; simp
          have hov : o + v < 2 ^ (i + 1) := by rw [Nat.pow_succ]; omega
          have h28 : 2 ^ i ≤ 2 ^ 8 := Nat.pow_le_pow_right (by decide) (by omega)
          rw [hv] at hgo
          obtain ⟨x, hx⟩ : ∃ x, o + v = x := ⟨_, rfl⟩
          have ix : (o : Int) + (v : Int) = (x : Int) := by omega
          have hv256 : v ≤ 256 := by omega
          have ho256 : o ≤ 256 := by omega
          rw [hx] at hgo hov
          have HG := Lib.hid hgo; have HI := Lib.hid hi; have HO := Lib.hid hov
          clear hs0 hs9 ha4 ha5 ha6 ha7 hr4 hr5 hr6 hr7 hs4 hs5 hs6 hs7 hu1 hu2 hu3 hu4 hu5 hbt hpw hv hov h28 hx hgo hi ho
          go_wp2_with fail
          refine wp_region_gr (by kernel_rfl) (by kernel_rfl) ?_
          repeat (first
            | go_big_quiet_skip
            | ((refine BigFrame.wpQuiet_want rfl (fun K hK => quiet_mk ?_)); apply Exists.intro; refine ⟨fun wq hq => ?_, hK _ ?_⟩
               · go_simp; (try simp only [↓IntWalk.iteOmega]); (try go_bits)
                 first | done | rfl | exact ⟨rfl, rfl⟩ | exact ⟨trivial, rfl⟩
               clear hK K; (try simp only [Act.put, List.setIfInBounds_toArray, List.set_cons_zero, List.set_cons_succ])))
          refine wpQuiet_nil ?_
          intro W2 hw2
          have HB2 := Below.thn HB hw2.out HBs
          clear hw2 HB HBs
          simp only [Exit.then]
          apply_assumption
          go_wp2_with fail
          go_roundg g
          case rel => exact ⟨i + 1, x, by have := HI.out; omega, rfl, by simp, HO.out, HG.out, HB2⟩
          case measure => omega
    | succ g =>
      rw [powGo, reck_eq] at hgo
      obtain ⟨s, hs⟩ : ∃ s, rTimes q q = s := ⟨_, rfl⟩
      have hsl : s < 256 := by rw [← hs]; exact rTimes_lt _ _
      have c1 := fun W => rtimes_any q q hq hq W
      rw [hs] at hgo c1
      rw [reck_eq] at hgo
      obtain ⟨t, ht⟩ : ∃ t, rTimes p s = t := ⟨_, rfl⟩
      have htl : t < 256 := by rw [← ht]; exact rTimes_lt _ _
      have c2 := fun W => rtimes_any p s hp hsl W
      rw [ht] at hgo c2
      have hi8 : (i : Int) < 8 := by omega
      have HG := Lib.hid hgo; have HI := Lib.hid hi; have C1 := Lib.hid c1; have C2 := Lib.hid c2
      clear hs ht hgo hi c1 c2
      go_wp2_with fail
      refine (C1.out _).mono ?_
      rintro e W1 ⟨rfl, hw1⟩
      subst hw1
      go_wp2_with fail
      refine (C2.out _).mono ?_
      rintro e W1 ⟨rfl, hw1⟩
      subst hw1
      go_wp2_with fail
      go_roundg g
      case rel => exact ⟨i + 1, t, s, by have := HI.out; omega, rfl, rfl, by simp, htl, hsl, HG.out, HB⟩
      case measure => omega
end Go.Proofs.Ytkblkdojmfgneaa
