/- Package word: Put. -/
import Derived.Test.YtpnbmfpdoipioaaSnd3
import Derived.Deep.OwnRows
import Derived.Lib.SlBytesRow
namespace Go.Proofs.Ytpnbmfpdoipioaa
open Go.RowKit

/-- A number's bytes, so many, the greatest first. -/
def putL (n k : Nat) : List UInt8 := (List.range k).map fun i => UInt8.ofNat (n / 256 ^ (k - 1 - i))
def putB (n k : Nat) : ByteArray := ⟨(putL n k).toArray⟩
theorem putL_length (n k : Nat) : (putL n k).length = k := by simp [putL]
theorem putB_size (n k : Nat) : (putB n k).size = k := by show (putL n k).toArray.size = k; simp [putL]
def putF (n k j : Nat) (i : Nat) : Value := if k - j ≤ i then .int .u8 ((n / 256 ^ (k - 1 - i) % 256 : Nat) : Int) else .int .u8 0
theorem put_bytes {w : World} {b n k : Nat} (h : w.rowIs b 5 k (putF n k k)) : Lib.Bytes w b 0 (putB n k) := by
  intro i hi
  rw [putB_size] at hi
  rw [Nat.zero_add, h.cell hi]
  unfold putF
  rw [if_pos (by omega)]
  congr 2
  show _ = (((putL n k).toArray[i]'(by simpa [putL] using hi)).toNat : Int)
  simp [putL]
theorem make_bytes (n : Nat) (w : World) (hn : n ≤ 256) :
    (Instr.makeSlice 87 (.int .i64 (n : Int)) (.int .i64 (n : Int))).run Try.prog w = .ok (.slice (some ⟨w.heap.size, 0, none⟩) n n) (w.alloc (.cells (madeCells #[.int .u8 0] n) 5)) :=
  run_make_row' 87 5 (.int .u8 0) 1 Try.underlying87 (by kernel_rfl) rfl .i64 .i64 n (by omega) (by omega) w

set_option maxHeartbeats 1000000 in
set_option maxRecDepth 20000 in
theorem put_any (n k : Nat) (w : World) (hn : n ≤ 18446744073709551615) (hk : k ≤ 8) :
    Calls Try.prog 40 #[.int .u64 n, .int .i64 k] w fun e w' => e = .returned (.string (putB n k)) ∧ Below w.heap.size w w' := by
  have hmk := make_bytes k w (by omega)
  have hk0 : ¬ (k : Int) < 0 := by omega
  have hk8 : ¬ (8 : Int) < k := by omega
  have row0 : (w.alloc (.cells (madeCells #[.int .u8 0] k) 5)).rowIs w.heap.size 5 k (putF n k 0) := (World.rowIs_made w (.int .u8 0) k 5).congr (fun i hi => by unfold putF; rw [if_neg (by omega)])
  have HB0 : Below w.heap.size w (w.alloc (.cells (madeCells #[.int .u8 0] k) 5)) := (Below.refl _ _).alloc (Nat.le_refl _) _
  have hmin : min (k : Int) 8 = (k : Int) := by omega
  go_enter Try.func40, Try.ntmps40
  go_wp2_with fail
  go_loopg [0, 6] k (fun g t0 t6 wr => ∃ j : Nat, j + g = k ∧ t0 = .int .u64 ((n / 256 ^ j : Nat) : Int) ∧ t6 = .int .i64 ((k : Int) - 1 - j) ∧ wr.rowIs w.heap.size 5 k (putF n k j) ∧ Below w.heap.size w wr)
  case atStart => exact ⟨0, by omega, by simp, by simp, row0, HB0⟩
  case round =>
    clear row0 HB0
    obtain ⟨j, hj, rfl, rfl, row, HB⟩ := hrel
    have HBs := HB.size
    have HJ := Lib.hid hj
    have hrl := row.lt
    cases gk with
    | zero =>
      have hk' : (k : Int) - 1 - j < 0 := by omega
      have hjk : j = k := by omega
      clear hj
      rw [hjk] at row
      have hcv := Lib.run_convert_whole (P := Try.prog) wr 87 5 9 Try.underlying87 Try.underlying5 Try.underlying9 w.heap.size 0 (putB n k) (put_bytes row) k
      rw [putB_size] at hcv
      clear hjk
      go_wp2
      go_ret
      exact ⟨rfl, HB⟩
    | succ g =>
      obtain ⟨i, hi⟩ : ∃ i : Nat, (k : Int) - 1 - j = (i : Int) := ⟨k - 1 - j, by omega⟩
      rw [hi]
      have hik : i + j + 1 = k := by omega
      have hik2 : (i : Int) < k := by omega
      have hlt : n / 256 ^ j ≤ 18446744073709551615 := Nat.le_trans (Nat.div_le_self _ _) hn
      obtain ⟨m, hm⟩ : ∃ m, n / 256 ^ j = m := ⟨_, rfl⟩
      rw [hm] at hlt ⊢
      have hw8 : IntKind.u8.wrap (m : Int) = ((m % 256 : Nat) : Int) := by simp [IntKind.wrap, IntKind.bits, IntKind.signed]
      have hc := row.cell (i := i) (by omega)
      have hf := row.frozen i
      have row2 := Lib.hid ((row.set i (.int .u8 ((m % 256 : Nat) : Int))).congr (g := putF n k (j + 1)) (fun q hq => by
        unfold putF
        by_cases e : q = i
        · subst e
          rw [if_pos rfl, if_pos (by omega), show k - 1 - q = j by omega, hm]
        · rw [if_neg e]
          by_cases e2 : k - j ≤ q
          · rw [if_pos e2, if_pos (by omega)]
          · rw [if_neg e2, if_neg (by omega)]))
      have hd : n / 256 ^ (j + 1) = m / 256 := by rw [Nat.pow_succ, ← Nat.div_div_eq_div_mul, hm]
      have HD := Lib.hid hd
      have HI := Lib.hid hi
      have HIK := Lib.hid hik
      clear hj hi hd hik hm row
      go_wp2_with fail
      go_roundg g
      case rel =>
        refine ⟨j + 1, by have := HJ.out; omega, ?_, ?_, row2.out, HB.setCell (p := ⟨w.heap.size, i, none⟩) (Nat.le_refl _) _⟩
        · rw [HD.out]; simp
        · congr 1; have := HI.out; omega
      case measure => omega
end Go.Proofs.Ytpnbmfpdoipioaa
