/- Put and Text of the document. -/
import Derived.Test.YtpnbmfpdoipioaaTexts1
namespace Go.Proofs.Ytpnbmfpdoipioaa
open Go.RowKit

theorem putB_succ (n k : Nat) : putB n (k + 1) = ⟨#[UInt8.ofNat (n / 256 ^ k)]⟩ ++ putB n k := by
  apply ba_ext
  rw [ba_app]
  show (putL n (k + 1)) = [UInt8.ofNat (n / 256 ^ k)] ++ putL n k
  unfold putL
  rw [List.range_succ_eq_map, List.map_cons, List.map_map]
  simp only [List.singleton_append]
  congr 1
  apply List.map_congr_left
  intro i hi
  have := List.mem_range.1 hi
  show UInt8.ofNat (n / 256 ^ (k + 1 - 1 - (i + 1))) = _
  congr 3
  omega
set_option maxHeartbeats 2000000 in
set_option maxRecDepth 20000 in
theorem rput_any (n : Nat) (w : World) (hn : n ≤ 18446744073709551615) :
    Calls Try.prog 42 #[.int .u64 n, .int .i64 8] w fun e w' => e = .returned (.string (putB n 8)) ∧ Below w.heap.size w w' := by
  go_enter Try.func42, Try.ntmps42
  go_wp2_with fail
  go_loopg [0, 5, 6] 8 (fun g t0 t5 t6 wr => ∃ j : Nat, j + g = 8 ∧ t0 = .int .u64 ((n / 256 ^ j : Nat) : Int) ∧ t5 = .string (putB n j) ∧ t6 = .int .i64 j ∧ Below w.heap.size w wr)
  case atStart => exact ⟨0, by omega, by simp, rfl, rfl, by (repeat (first | (with_reducible assumption) | (with_reducible exact Below.refl _ _) | with_reducible apply bl_drewN | with_reducible apply Below.drew | (with_reducible apply bl_alloc; focus (first | (simp; done) | (simp; omega) | omega)) | (with_reducible apply bl_set; focus (first | (simp; done) | (simp; omega) | omega))))⟩
  case round =>
    obtain ⟨j, hj, rfl, rfl, rfl, HB⟩ := hrel
    have HBs := HB.size
    have HJ := Lib.hid hj
    cases gk with
    | zero =>
      have hj8 : j = 8 := by omega
      subst hj8
      clear hj
      go_wp2
      go_ret
      exact ⟨rfl, HB⟩
    | succ g =>
      have hj8 : (j : Int) < 8 := by omega
      have hlt : n / 256 ^ j ≤ 18446744073709551615 := Nat.le_trans (Nat.div_le_self _ _) hn
      have hd : n / 256 ^ (j + 1) = n / 256 ^ j / 256 := by rw [Nat.pow_succ, ← Nat.div_div_eq_div_mul]
      have hps := putB_succ n j
      obtain ⟨m, hm⟩ : ∃ m, n / 256 ^ j = m := ⟨_, rfl⟩
      rw [hm] at hlt hd hps ⊢
      have hrm : (m : Int).tmod 256 = ((m % 256 : Nat) : Int) := rfl
      have hq : (m : Int).tdiv 256 = ((m / 256 : Nat) : Int) := rfl
      have hm256 : m % 256 < 256 := Nat.mod_lt _ (by decide)
      obtain ⟨r, hr⟩ : ∃ r, m % 256 = r := ⟨_, rfl⟩
      obtain ⟨q, hqq⟩ : ∃ q, m / 256 = q := ⟨_, rfl⟩
      have hB : Lib.Bytes (wr.alloc (.cells #[.int .u8 r] 5)) wr.heap.size 0 ⟨#[UInt8.ofNat m]⟩ := by
        intro i hi
        have hi0 : i = 0 := by have : i < 1 := hi; omega
        subst hi0
        rw [(Blk.new wr #[.int .u8 r] 5).cell]
        show some (Value.int .u8 (r : Int)) = some (.int .u8 (((UInt8.ofNat m).toNat : Nat) : Int))
        rw [← hr]; simp
      have hcv := Lib.run_convert_whole (P := Try.prog) (wr.alloc (.cells #[.int .u8 r] 5)) 87 5 9 Try.underlying87 Try.underlying5 Try.underlying9 wr.heap.size 0 ⟨#[UInt8.ofNat m]⟩ hB 1
      have hsz1 : (⟨#[UInt8.ofNat m]⟩ : ByteArray).size = 1 := rfl
      rw [hsz1] at hcv
      have hsz2 : (putB n j).size = j := putB_size n j
      have radd : ∀ W, (Op.stringOp .add ⟨#[UInt8.ofNat m]⟩ (putB n j)).run Try.prog W = .ok (.string (putB n (j + 1))) W := fun W => by rw [hps]; exact run_string_add_sum W _ _ (by omega)
      rw [hr] at hrm hm256
      rw [hqq] at hq hd
      have hql : q ≤ 18446744073709551615 := by rw [← hqq]; exact Nat.le_trans (Nat.div_le_self _ _) hlt
      have hHB := HB.alloc HBs (.cells #[.int .u8 r] 5)
      have HD := Lib.hid hd
      clear hj hd hps hm hr hqq hB hsz1 hsz2
      go_wp2_with fail
      go_roundg g
      case rel => exact ⟨j + 1, by have := HJ.out; omega, by rw [HD.out], rfl, by simp, hHB⟩
      case measure => omega
set_option maxHeartbeats 2000000 in
set_option maxRecDepth 20000 in
theorem rtext_any (a b c d : Nat) (s : ByteArray) (w : World) (ha : a ≤ 18446744073709551615) (hb : b ≤ 18446744073709551615) (hc : c ≤ 18446744073709551615) (hd : d ≤ 18446744073709551615) (hs : s.size ≤ 100000) :
    Calls Try.prog 26 #[IV a b c d s] w fun e w' => e = .returned (.string (textB a b c d s)) ∧ Below w.heap.size w w' := by
  have z1 : (putB a 8).size = 8 := putB_size a 8
  have z2 : (putB b 8).size = 8 := putB_size b 8
  have z3 : (putB c 8).size = 8 := putB_size c 8
  have z4 : (putB d 8).size = 8 := putB_size d 8
  have y1 : (putB a 8 ++ putB b 8).size = 16 := by rw [sz_app, z1, z2]
  have y2 : (putB a 8 ++ putB b 8 ++ putB c 8).size = 24 := by rw [sz_app, y1, z3]
  have y3 : (putB a 8 ++ putB b 8 ++ putB c 8 ++ putB d 8).size = 32 := by rw [sz_app, y2, z4]
  unfold textB
  have r1 : ∀ W, (Op.stringOp .add (putB a 8) (putB b 8)).run Try.prog W = .ok (.string (putB a 8 ++ putB b 8)) W := fun W => run_string_add_sum W _ _ (by omega)
  have r2 : ∀ W, (Op.stringOp .add (putB a 8 ++ putB b 8) (putB c 8)).run Try.prog W = .ok (.string (putB a 8 ++ putB b 8 ++ putB c 8)) W := fun W => run_string_add_sum W _ _ (by omega)
  have r3 : ∀ W, (Op.stringOp .add (putB a 8 ++ putB b 8 ++ putB c 8) (putB d 8)).run Try.prog W = .ok (.string (putB a 8 ++ putB b 8 ++ putB c 8 ++ putB d 8)) W := fun W => run_string_add_sum W _ _ (by omega)
  have r4 : ∀ W, (Op.stringOp .add (putB a 8 ++ putB b 8 ++ putB c 8 ++ putB d 8) s).run Try.prog W = .ok (.string (putB a 8 ++ putB b 8 ++ putB c 8 ++ putB d 8 ++ s)) W := fun W => run_string_add_sum W _ _ (by omega)
  clear z1 z2 z3 z4 y1 y2 y3
  go_enter Try.func26, Try.ntmps26
  go_wp2_with fail
  refine wp_abs1 (w.heap.size) 62 (n := w.heap.size) (w := w) (by (repeat (first | (with_reducible assumption) | (with_reducible exact Below.refl _ _) | with_reducible apply bl_drewN | with_reducible apply Below.drew | (with_reducible apply bl_alloc; focus (first | (simp; done) | (simp; omega) | omega)) | (with_reducible apply bl_set; focus (first | (simp; done) | (simp; omega) | omega))))) (by (repeat (first | (with_reducible assumption) | (with_reducible apply Blk.new'; (first | (with_reducible rfl) | (simp; done))) | with_reducible apply Blk.alloc | with_reducible apply Blk.set | ((with_reducible apply Blk.set_ne); focus (first | (simp; done) | (simp; omega))) | with_reducible apply Blk.drewN | with_reducible apply Blk.drew))) (fun W0 HB B0 => ?_)
  have HBs := HB.size
  have B0c := B0.cell; have B0f := B0.frozen; have B0l := B0.lt
  refine wp_region_gr_tail 17 (by kernel_rfl) (by kernel_rfl) ?_
  simp only [List.take_succ_cons, List.take_zero, List.drop_succ_cons, List.drop_zero]
  repeat (first
    | go_big_quiet_skip
    | ((refine BigFrame.wpQuiet_want rfl (fun K hK => quiet_mk ?_)); apply Exists.intro; refine ⟨fun wq hq => ?_, hK _ ?_⟩
       · have f0 := hq.blk B0; go_simp; (try simp only [↓IntWalk.iteOmega]); (try go_bits)
         first | done | rfl | exact ⟨rfl, rfl⟩ | (go_at_call 42; refine (rput_any _ _ (by assumption)).mono ?_; rintro e wr ⟨rfl, hbr⟩; exact ⟨rfl, hq.next hbr⟩)
       clear hK K; (try simp only [Act.put, List.setIfInBounds_toArray, List.set_cons_zero, List.set_cons_succ])))
  refine wpQuiet_nil ?_
  intro w1 hw1
  have HB : Below w.heap.size w w1 := Below.thn HB hw1.out HB.size
  have HBs := HB.size
  have B0 := B0.gr hw1; clear B0c B0f B0l; have B0c := B0.cell; have B0f := B0.frozen; have B0l := B0.lt
  clear hw1
  go_wp2
  go_ret
  exact ⟨rfl, HB⟩
end Go.Proofs.Ytpnbmfpdoipioaa
