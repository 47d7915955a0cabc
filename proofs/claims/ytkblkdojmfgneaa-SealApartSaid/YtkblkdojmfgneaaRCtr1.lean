/- The document's numbers as bytes: Put. -/
import Derived.Test.YtkblkdojmfgneaaRAes6
namespace Go.Proofs.Ytkblkdojmfgneaa
open Go.RowKit

theorem putB_snoc (n i : Nat) : putB n (i + 1) = UInt8.ofNat (n / 256 ^ i) :: putB n i := by
  unfold putB
  rw [List.range_succ_eq_map, List.map_cons, List.map_map]
  congr 1
  apply List.map_congr_left
  intro j _
  simp only [Function.comp]
  congr 3
  omega
theorem one_row {W : World} {b : Nat} {c : UInt8} {t : TypeId} (B : Blk W b #[.int .u8 ((c.toNat : Nat) : Int)] t) : BRow W b [c] :=
  ⟨B.lt, fun i hi => by
    obtain rfl : i = 0 := by simp at hi; exact hi
    exact (B.cell 0).trans rfl, fun i _ => B.frozen i⟩
theorem one_text (W : World) (c : UInt8) (t : TypeId) : (convert 36 9 (.slice (some ⟨W.heap.size, 0, none⟩) 1 1)).run Try.prog (W.alloc (.cells #[.int .u8 ((c.toNat : Nat) : Int)] t)) = .ok (.string ⟨#[c]⟩) (W.alloc (.cells #[.int .u8 ((c.toNat : Nat) : Int)] t)) :=
  Lib.run_convert_whole (P := Try.prog) (W.alloc (.cells #[.int .u8 ((c.toNat : Nat) : Int)] t)) 36 5 9 Try.underlying36 Try.underlying5 Try.underlying9 W.heap.size 0 ⟨#[c]⟩ (row_bytes (one_row (Blk.new _ _ _))) 1
set_option maxHeartbeats 4000000 in
set_option maxRecDepth 20000 in
theorem rput_any (n k : Nat) (hn : n ≤ 18446744073709551615) (hk : k ≤ 8) (w : World) : Calls Try.prog 18 #[.int .u64 (n : Int), .int .i64 (k : Int)] w fun e w' => e = .returned (.string ⟨(putB n k).toArray⟩) ∧ Below w.heap.size w w' := by
  go_enter Try.func18, Try.ntmps18
  go_wp2_with fail
  go_loopg [0, 5, 6] k (fun gk t0 t5 t6 wr => ∃ i x : Nat, i + gk = k ∧ t0 = .int .u64 (x : Int) ∧ t5 = .string ⟨(putB n i).toArray⟩ ∧ t6 = .int .i64 (i : Int) ∧ x = n / 256 ^ i ∧ Below w.heap.size w wr)
  case atStart => exact ⟨0, n, by omega, rfl, rfl, rfl, by simp, Below.refl _ _⟩
  case round =>
    obtain ⟨i, x, hi, rfl, rfl, rfl, hx, HB⟩ := hrel
    have HBs := HB.size
    cases gk with
    | zero =>
      obtain rfl : i = k := by omega
      have h1 : ¬ (i : Int) < (i : Int) := by omega
      clear hi hx
      go_wp2_with fail
      go_ret
      exact ⟨rfl, HB⟩
    | succ g =>
      have hik : (i : Int) < (k : Int) := by omega
      have hi8 : (i : Int) < 8 := by omega
      have hxl : x ≤ 18446744073709551615 := by rw [hx]; exact Nat.le_trans (Nat.div_le_self _ _) hn
      have hsn := putB_snoc n i
      rw [← hx] at hsn
      obtain ⟨y, hy⟩ : ∃ y, x / 256 = y := ⟨_, rfl⟩
      have hyi : (x : Int) / 256 = (y : Int) := by omega
      have hy2 : y = n / 256 ^ (i + 1) := by rw [← hy, hx, Nat.div_div_eq_div_mul, Nat.pow_succ]
      obtain ⟨c, hc⟩ : ∃ c, UInt8.ofNat x = c := ⟨_, rfl⟩
      have hci : (x : Int) % 256 = ((c.toNat : Nat) : Int) := by rw [← hc]; simp
      have hci2 : ((c.toNat : Nat) : Int) % 256 = ((c.toNat : Nat) : Int) := by have := c.toNat_lt; omega
      rw [hc] at hsn
      have hap : (⟨#[c]⟩ : ByteArray) ++ ⟨(putB n i).toArray⟩ = ⟨(putB n (i + 1)).toArray⟩ := by rw [hsn]; exact ba_list [c] _
      have hpl := putB_len n i
      obtain ⟨S, hS⟩ : ∃ s : ByteArray, (⟨(putB n i).toArray⟩ : ByteArray) = s := ⟨_, rfl⟩
      obtain ⟨S2, hS2⟩ : ∃ s : ByteArray, (⟨(putB n (i + 1)).toArray⟩ : ByteArray) = s := ⟨_, rfl⟩
      have hSs : S.size = i := by rw [← hS, ba_size]; simpa using hpl
      rw [hS, hS2] at hap
      rw [hS]
      have hcv := one_text wr c 5
      have HI := Lib.hid hi; have HY := Lib.hid hy2; have HS2 := Lib.hid hS2; have HS := Lib.hid hS
      have i8 : i ≤ 8 := by omega
      clear hx hsn hy hy2 hc hi hS hS2 hpl
      go_wp2_with fail
      go_roundg g
      case rel => exact ⟨i + 1, y, by have := HI.out; omega, by simp, by rw [HS2.out], by simp, HY.out, by (repeat (first | (with_reducible assumption) | (with_reducible exact Below.refl _ _) | with_reducible apply bl_drewN | with_reducible apply Below.drew | (with_reducible apply bl_alloc; focus (first | (simp; done) | (simp; omega) | omega)) | (with_reducible apply bl_set; focus (first | (simp; done) | (simp; omega) | omega))))⟩
      case measure => omega
end Go.Proofs.Ytkblkdojmfgneaa
