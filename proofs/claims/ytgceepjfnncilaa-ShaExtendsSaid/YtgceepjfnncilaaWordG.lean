/- Package word: Get. -/
import Derived.Test.YtgceepjfnncilaaSha4
namespace Go.Proofs.Ytgceepjfnncilaa
open Go.RowKit

def getJ (s : ByteArray) (j : Nat) : Nat := (s.data.toList.take j).foldl (fun n b => n * 256 + b.toNat) 0
theorem getJ_succ (s : ByteArray) (j : Nat) (hj : j < s.size) : getJ s (j + 1) = getJ s j * 256 + (s.data.toList[j]'(by exact hj)).toNat := by
  unfold getJ
  rw [List.take_add_one, List.getElem?_eq_getElem (by exact hj), List.foldl_append]
  rfl
theorem getJ_lt (s : ByteArray) (j : Nat) (hj : j ≤ s.size) : getJ s j < 256 ^ j := by
  induction j with
  | zero => simp [getJ]
  | succ j ih =>
    rw [getJ_succ s j (by omega), Nat.pow_succ]
    have := ih (by omega)
    have := (s.data.toList[j]'(by show j < s.size; omega)).toNat_lt
    omega
set_option maxHeartbeats 2000000 in
set_option maxRecDepth 20000 in
theorem get_any (s : ByteArray) (w : World) (hs0 : 0 < s.size) (hs : s.size ≤ 8) :
    Calls Try.prog 52 #[.string s] w fun e w' => e = .returned (.tuple #[.int .u64 (getJ s s.size : Nat), .int .i64 0]) ∧ Below w.heap.size w w' := by
  have hne : s.toList.isEmpty = false := by
    rw [ba_toList, List.isEmpty_eq_false_iff]
    intro h
    have : s.data.size = 0 := by rw [← Array.length_toList, h]; rfl
    exact absurd this (by show s.size ≠ 0; omega)
  have h8 : ¬ (8 : Int) < s.size := by omega
  go_enter Try.func52, Try.ntmps52
  go_wp2_with fail
  go_loopg [4, 15] s.size (fun g t4 t15 wr => ∃ j : Nat, j + g = s.size ∧ t4 = .int .u64 (getJ s j : Nat) ∧ t15 = .int .i64 j ∧ Below w.heap.size w wr)
  case atStart => exact ⟨0, by omega, rfl, rfl, by (repeat (first | (with_reducible assumption) | (with_reducible exact Below.refl _ _) | with_reducible apply bl_drewN | with_reducible apply Below.drew | (with_reducible apply bl_alloc; focus (first | (simp; done) | (simp; omega) | omega)) | (with_reducible apply bl_set; focus (first | (simp; done) | (simp; omega) | omega))))⟩
  case round =>
    obtain ⟨j, hj, rfl, rfl, HB⟩ := hrel
    have HBs := HB.size
    have HJ := Lib.hid hj
    cases gk with
    | zero =>
      have hj' : ¬ (j : Int) < s.size := by omega
      have hjs : j = s.size := by omega
      clear hj
      have HJS := Lib.hid hjs
      clear hjs
      go_wp2
      refine bodyPost_ret (v := .tuple #[.int .u64 (getJ s s.size : Nat), .int .i64 0]) ?_ rfl ⟨rfl, HB⟩
      simp [results, Try.results52, go_sem, HJS.out]
    | succ g =>
      have hj' : (j : Int) < s.size := by omega
      have hjl : j < s.size := by omega
      have hn := getJ_succ s j hjl
      have hlt := getJ_lt s j (by omega)
      clear hj
      have hlt2 := getJ_lt s (j + 1) (by omega)
      have hpw : 256 ^ (j + 1) ≤ 256 ^ 8 := Nat.pow_le_pow_right (by decide) (by omega)
      have hbt : s.data.toList[j].toNat < 256 := UInt8.toNat_lt _
      have hx : s[j].toNat = s.data.toList[j].toNat := rfl
      obtain ⟨x, hxx⟩ : ∃ x, s.data.toList[j].toNat = x := ⟨_, rfl⟩
      rw [hxx] at hn hbt hx
      obtain ⟨G, hG⟩ : ∃ G, getJ s j = G := ⟨_, rfl⟩
      rw [hG] at hn ⊢
      have hval : bits .or .u64 ((G : Int) * 256) (x : Int) = ((getJ s (j + 1) : Nat) : Int) := by
        rw [show ((G : Int) * 256) = ((G * 256 : Nat) : Int) by omega, u64_or_nat _ _ (by omega) (by omega), hn]
        have := Nat.two_pow_add_eq_or_of_lt (i := 8) (b := x) hbt G
        rw [show 2 ^ 8 * G = G * 256 by omega] at this
        rw [← this]
      have HV := Lib.hid hval
      have hGb : G < 72057594037927936 := by omega
      clear hn hval hlt hlt2 hpw hG hxx
      go_wp2_with fail
      go_roundg g
      case rel => exact ⟨j + 1, by have := HJ.out; omega, by rw [HV.out], by simp, HB⟩
      case measure => omega
end Go.Proofs.Ytgceepjfnncilaa
