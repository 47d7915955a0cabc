/- Package delta: run. -/
import Derived.Test.YtgdmeaoghhkknaaDelL
import Derived.Test.YtgdmeaoghhkknaaRTxt3
namespace Go.Proofs.Ytgdmeaoghhkknaa
open Go.RowKit

theorem ba_getD (a : ByteArray) (n : Nat) (h : n < a.size) : a.data.toList.getD n 0 = a[n] := by
  have h' : n < a.data.toList.length := h
  rw [List.getD_eq_getElem?_getD, List.getElem?_eq_getElem h']; rfl
set_option maxHeartbeats 4000000 in
set_option maxRecDepth 20000 in
theorem run_any (a b : ByteArray) (w : World) (hl : a.size = b.size) (hs : a.size ≤ 254) :
    Calls Try.prog 42 #[.string a, .string b] w fun e w' => e = .returned (.int .i64 (runL a.data.toList b.data.toList : Nat)) ∧ Below w.heap.size w w' := by
  have hR := fun n => runL_eq a.data.toList b.data.toList n hl
  have HR := Lib.hid hR
  have HL := Lib.hid hl
  clear hR hl
  go_enter Try.func42, Try.ntmps42
  go_wp2_with fail
  go_loopg [5] a.size (fun g t5 wr => ∃ n : Nat, t5 = .int .i64 n ∧ n + g = a.size ∧ (∀ i, i < n → a.data.toList.getD i 0 ≠ b.data.toList.getD i 0) ∧ Below w.heap.size w wr)
  case atStart => exact ⟨0, rfl, by omega, fun i hi => absurd hi (Nat.not_lt_zero i), by (repeat (first | (with_reducible assumption) | (with_reducible exact Below.refl _ _) | with_reducible apply bl_drewN | with_reducible apply Below.drew | (with_reducible apply bl_alloc; focus (first | (simp; done) | (simp; omega) | omega)) | (with_reducible apply bl_set; focus (first | (simp; done) | (simp; omega) | omega))))⟩
  case round =>
    obtain ⟨n, rfl, hn, hd, HB⟩ := hrel
    have HBs := HB.size
    have HN := Lib.hid hn
    have HD := Lib.hid hd
    cases gk with
    | zero =>
      have q1 : decide (n < a.size) = false := decide_eq_false (by omega)
      have hres := HR.out n (by show n ≤ a.size; omega) hd (.inl (by show n = a.size; omega))
      have HRES := Lib.hid hres
      clear hn hd hres
      go_wp2_with fail
      refine wp_region_gr (by kernel_rfl) (by kernel_rfl) ?_
      repeat (first
        | go_big_quiet_skip
        | ((refine BigFrame.wpQuiet_want rfl (fun K hK => quiet_mk ?_)); apply Exists.intro; refine ⟨fun wq hq => ?_, hK _ ?_⟩
           · go_simp; (try simp only [↓IntWalk.iteOmega]); (try go_bits)
             first | done | rfl | exact ⟨rfl, rfl⟩ | exact ⟨trivial, rfl⟩
           clear hK K; (try simp only [Act.put, List.setIfInBounds_toArray, List.set_cons_zero, List.set_cons_succ])))
      refine wpQuiet_nil ?_
      intro W4 hw4
      have HB4 := Below.thn HB hw4.out HBs
      go_wp2_with fail
      go_ret
      exact ⟨by rw [HRES.out]; rfl, HB4⟩
    | succ g =>
      have hna : n < a.size := by omega
      have hnb : n < b.size := by have := HL.out; omega
      have k1 : (n : Int) < a.size := by omega
      have k2 : (n : Int) < b.size := by omega
      have q1 : decide (n < a.size) = true := decide_eq_true hna
      have q2 : decide ((n : Int) < 255) = true := decide_eq_true (by omega)
      have q3 : decide (n < 255) = true := decide_eq_true (by omega)
      obtain ⟨x, hx⟩ : ∃ x, a[n] = x := ⟨_, rfl⟩
      obtain ⟨y, hy⟩ : ∃ y, b[n] = y := ⟨_, rfl⟩
      have hgx : a.data.toList.getD n 0 = x := by rw [ba_getD a n hna, hx]
      have hgy : b.data.toList.getD n 0 = y := by rw [ba_getD b n hnb, hy]
      by_cases hxy : x = y
      · have hres := HR.out n (by show n ≤ a.size; omega) hd (.inr (by rw [hgx, hgy]; exact hxy))
        have HRES := Lib.hid hres
        have q4 : ((x.toNat : Int) != (y.toNat : Int)) = false := by simp [hxy]
        have q5 : ((x.toNat) != (y.toNat)) = false := by simp [hxy]
        clear hn hd hres hgx hgy hxy
        go_wp2_with fail
        refine wp_region_gr (by kernel_rfl) (by kernel_rfl) ?_
        repeat (first
          | go_big_quiet_skip
          | ((refine BigFrame.wpQuiet_want rfl (fun K hK => quiet_mk ?_)); apply Exists.intro; refine ⟨fun wq hq => ?_, hK _ ?_⟩
             · go_simp; (try simp only [↓IntWalk.iteOmega]); (try go_bits)
               first | done | rfl | exact ⟨rfl, rfl⟩ | exact ⟨trivial, rfl⟩
             clear hK K; (try simp only [Act.put, List.setIfInBounds_toArray, List.set_cons_zero, List.set_cons_succ])))
        refine wpQuiet_nil ?_
        intro W4 hw4
        have HB4 := Below.thn HB hw4.out HBs
        go_wp2_with fail
        go_ret
        exact ⟨by rw [HRES.out]; rfl, HB4⟩
      · have hne : x.toNat ≠ y.toNat := fun h => hxy (UInt8.toNat_inj.1 h)
        have q4 : ((x.toNat : Int) != (y.toNat : Int)) = true := by simp; omega
        have q5 : ((x.toNat) != (y.toNat)) = true := by simp; omega
        have HXY := Lib.hid (show a.data.toList.getD n 0 ≠ b.data.toList.getD n 0 by rw [hgx, hgy]; exact hxy)
        clear hn hd hgx hgy hxy hne
        go_wp2_with fail
        refine wp_region_gr (by kernel_rfl) (by kernel_rfl) ?_
        repeat (first
          | go_big_quiet_skip
          | ((refine BigFrame.wpQuiet_want rfl (fun K hK => quiet_mk ?_)); apply Exists.intro; refine ⟨fun wq hq => ?_, hK _ ?_⟩
             · go_simp; (try simp only [↓IntWalk.iteOmega]); (try go_bits)
               first | done | rfl | exact ⟨rfl, rfl⟩ | exact ⟨trivial, rfl⟩
             clear hK K; (try simp only [Act.put, List.setIfInBounds_toArray, List.set_cons_zero, List.set_cons_succ])))
        refine wpQuiet_nil ?_
        intro W4 hw4
        have HB4 := Below.thn HB hw4.out HBs
        go_wp2_with fail
        go_roundg g
        case rel => exact ⟨n + 1, by simp, by have := HN.out; omega, fun i hi => (Nat.lt_succ_iff_lt_or_eq.1 hi).elim (HD.out i) (fun h5 => by rw [h5]; exact HXY.out), HB4⟩
        case measure => omega
end Go.Proofs.Ytgdmeaoghhkknaa
