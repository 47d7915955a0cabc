/- Package sha: Whole. -/
import Derived.Test.YtgceepjfnncilaaSha6
namespace Go.Proofs.Ytgceepjfnncilaa
open Go.RowKit

theorem repL (n : Nat) (c : UInt8) : Lib.repeatL [c] n = List.replicate n c := by
  induction n with
  | zero => rfl
  | succ n ih => simp [Lib.repeatL, ih, List.replicate_succ]
theorem rep0_any (n : Nat) (w : World) (hn : n ≤ 100000) : Calls Try.prog 12 #[.string ⟨#[0]⟩, .int .i64 n] w fun e w' => e = .returned (.string ⟨(List.replicate n 0).toArray⟩) ∧ Below w.heap.size w w' := by
  have := Try.strings_Repeat ⟨#[0]⟩ n w (by omega) (by show 1 * n ≤ _; omega)
  rw [show (⟨#[0]⟩ : ByteArray).data.toList = [0] from rfl, repL] at this
  exact this
set_option maxHeartbeats 4000000 in
set_option maxRecDepth 20000 in
theorem whole_any (s : ByteArray) (w : World) (hs : s.size ≤ 100000) :
    Calls Try.prog 16 #[.string s] w fun e w' => e = .returned (.string ⟨(wholeL s.data.toList).toArray⟩) ∧ Below w.heap.size w w' := by
  obtain ⟨n, hn⟩ : ∃ n, s.size = n := ⟨_, rfl⟩
  obtain ⟨p, hp⟩ : ∃ p, padN n = p := ⟨_, rfl⟩
  have hp64 : p < 64 := by rw [← hp]; exact Nat.mod_lt _ (by decide)
  have r1 : ((n : Int) + 1 + 8).tmod 64 = (((n + 9) % 64 : Nat) : Int) := by
    rw [show ((n : Int) + 1 + 8) = ((n + 9 : Nat) : Int) by omega]; exact (Int.ofNat_tmod (n + 9) 64).symm
  obtain ⟨r, hr⟩ : ∃ r, (n + 9) % 64 = r := ⟨_, rfl⟩
  rw [hr] at r1
  have hr64 : r < 64 := by rw [← hr]; exact Nat.mod_lt _ (by decide)
  obtain ⟨q, hq⟩ : ∃ q, 64 - r = q := ⟨_, rfl⟩
  have hqi : (64 : Int) - r = (q : Int) := by omega
  have r2 : (q : Int).tmod 64 = (p : Int) := by
    rw [← hp]; unfold padN; rw [hr, hq]; exact (Int.ofNat_tmod q 64).symm
  have hm8 : (8 : Int) * n = ((8 * n : Nat) : Int) := by simp
  obtain ⟨m8, hm⟩ : ∃ k, 8 * n = k := ⟨_, rfl⟩
  rw [hm] at hm8
  have R1 := Lib.hid (fun W => rep0_any p W (by omega))
  have P1 := Lib.hid (fun W => wput_any m8 8 W (by omega) (by omega) (by omega))
  obtain ⟨rp, hrp⟩ : ∃ t : ByteArray, ⟨(List.replicate p 0).toArray⟩ = t := ⟨_, rfl⟩
  obtain ⟨pt, hpt⟩ : ∃ t : ByteArray, ⟨(putB m8 8).toArray⟩ = t := ⟨_, rfl⟩
  rw [hrp] at R1
  rw [hpt] at P1
  obtain ⟨q1, hq1⟩ : ∃ t, s ++ ⟨#[128]⟩ = t := ⟨_, rfl⟩
  obtain ⟨q2, hq2⟩ : ∃ t, q1 ++ rp = t := ⟨_, rfl⟩
  obtain ⟨q3, hq3⟩ : ∃ t, q2 ++ pt = t := ⟨_, rfl⟩
  have hrps : rp.size = p := by rw [← hrp]; show (List.replicate p 0).length = p; simp
  have hpts : pt.size = 8 := by rw [← hpt]; exact putB_len _ _
  have hq1s : q1.size = n + 1 := by rw [← hq1, ByteArray.size_append, hn]; rfl
  have hq2s : q2.size = n + 1 + p := by rw [← hq2, ByteArray.size_append, hq1s, hrps]
  have radd1 : ∀ W, (Op.stringOp .add s ⟨#[128]⟩).run Try.prog W = .ok (.string q1) W := fun W => by rw [← hq1]; exact run_string_add_sum W _ _ (by rw [hn]; show n + 1 ≤ _; omega)
  have radd2 : ∀ W, (Op.stringOp .add q1 rp).run Try.prog W = .ok (.string q2) W := fun W => by rw [← hq2]; exact run_string_add_sum W _ _ (by omega)
  have radd3 : ∀ W, (Op.stringOp .add q2 pt).run Try.prog W = .ok (.string q3) W := fun W => by rw [← hq3]; exact run_string_add_sum W _ _ (by omega)
  have hres : (⟨(wholeL s.data.toList).toArray⟩ : ByteArray) = q3 := by
    apply ba_ext
    rw [← hq3, ba_app, ← hq2, ba_app, ← hq1, ba_app, ← hrp, ← hpt]
    show wholeL s.data.toList = _
    unfold wholeL
    rw [show s.data.toList.length = n from hn, hp, hm]
    rfl
  rw [hres]
  rw [hn] at hs
  clear hres hq1 hq2 hq3 hrp hpt hp hr hq hm hrps hpts hq1s hq2s
  go_enter Try.func16, Try.ntmps16
  go_wp2_with fail
  refine (R1.out _).mono ?_
  rintro e W1 ⟨rfl, hb1⟩
  have hbs1 := hb1.size
  go_wp2_with fail
  refine (P1.out _).mono ?_
  rintro e W2 ⟨rfl, hb2⟩
  have HB2 := Below.thn hb1 hb2 hbs1
  go_wp2_with fail
  go_ret
  exact ⟨rfl, HB2⟩
end Go.Proofs.Ytgceepjfnncilaa
