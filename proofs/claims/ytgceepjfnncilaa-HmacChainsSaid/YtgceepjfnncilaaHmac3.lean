/- Package hmac: Derive. -/
import Derived.Test.YtgceepjfnncilaaHmac2
namespace Go.Proofs.Ytgceepjfnncilaa
open Go.RowKit

theorem catB_three (A B C : ByteArray) : catB [A, B, C] = A ++ B ++ C := by
  apply ba_ext; simp [catB]
theorem cast_byte (b : Nat) (i : Nat) (W : World) (B : Blk W b #[.int .u8 ((i : Nat) : Int)] 5) (hi : i < 256) : (convert 30 9 (.slice (some ⟨b, 0, none⟩) 1 1)).run Try.prog W = .ok (.string ⟨#[UInt8.ofNat i]⟩) W := by
  have R : BRow W b [UInt8.ofNat i] := ⟨B.lt, fun j hj => by
    obtain rfl : j = 0 := by simpa using hj
    rw [B.cell]
    simp only [bval]
    rw [show ([UInt8.ofNat i] : List UInt8).getD 0 0 = UInt8.ofNat i from rfl, UInt8.toNat_ofNat', Nat.mod_eq_of_lt hi]; rfl, fun j _ => B.frozen j⟩
  exact Lib.run_convert_whole (P := Try.prog) W 30 5 9 Try.underlying30 Try.underlying5 Try.underlying9 b 0 ⟨#[UInt8.ofNat i]⟩ (row_bytes R) 1
set_option maxHeartbeats 4000000 in
set_option maxRecDepth 20000 in
theorem derive_any (key label : ByteArray) (n : Nat) (w : World) (hk : key.size ≤ 4000) (hl : label.size ≤ 4000) (hn : n ≤ 4000) :
    Calls Try.prog 30 #[.string key, .string label, .int .i64 n] w fun e w' => e = .returned (.tuple #[.string (derB key label n), .int .i64 0]) ∧ Below w.heap.size w w' := by
  have h0 : ¬ (n : Int) < 0 := by omega
  have h1 : ¬ (8160 : Int) < n := by omega
  obtain ⟨N, hN⟩ : ∃ N, (n + 31) / 32 = N := ⟨_, rfl⟩
  have hcut : (allB key label N).extract 0 n = derB key label n := by rw [← hN]; rfl
  have HCUT := Lib.hid hcut; have HN := Lib.hid hN
  clear hcut hN
  go_enter Try.func30, Try.ntmps30
  go_wp2_with fail
  go_loopg [8, 9, 10] N (fun gk t8 t9 t10 wr => ∃ k : Nat, k + gk = N ∧ t8 = .string (allB key label k) ∧ t9 = .string (lastB key label k) ∧ t10 = .int .u8 ((k + 1 : Nat) : Int) ∧ Below w.heap.size w wr)
  case atStart => exact ⟨0, by omega, rfl, rfl, rfl, Below.refl _ _⟩
  case round =>
    obtain ⟨k, hkg, rfl, rfl, rfl, HB⟩ := hrel
    have has := allB_size key label k
    have hls := lastB_size key label k
    have HBs := HB.size
    have hn2 := HN.out
    have hkb : k ≤ 126 := by omega
    obtain ⟨A, hA⟩ : ∃ A, allB key label k = A := ⟨_, rfl⟩
    obtain ⟨L, hL⟩ : ∃ A, lastB key label k = A := ⟨_, rfl⟩
    rw [hA, hL]
    rw [hA] at has; rw [hL] at hls
    cases gk with
    | zero =>
      obtain rfl : k = N := by omega
      have hlt : ¬ (A.size : Int) < n := by omega
      have hle : (n : Int) ≤ A.size := by omega
      have hc := HCUT.out
      rw [hA] at hc
      clear hkg has hls hn2 hA hL HN HCUT
      go_wp2_with fail
      go_ret2
      exact ⟨rfl, HB⟩
    | succ gk =>
      have hlt : (A.size : Int) < n := by omega
      obtain ⟨i, hi⟩ : ∃ i, k + 1 = i := ⟨_, rfl⟩
      rw [hi]
      have hi2 : i ≤ 127 := by omega
      obtain ⟨c, hc⟩ : ∃ c : ByteArray, (⟨#[UInt8.ofNat i]⟩ : ByteArray) = c := ⟨_, rfl⟩
      have hcs : c.size = 1 := by rw [← hc]; rfl
      have hcast := fun b W B => cast_byte b i W B (by omega)
      rw [hc] at hcast
      have hh := fun b W t B => hsum_row b key [L, label, c] (L ++ label ++ c) W t B (catB_three _ _ _) (by omega) (by rw [ByteArray.size_append, ByteArray.size_append]; omega) (by simp)
      have hlast : hmacB key (L ++ label ++ c) = lastB key label i := by rw [← hi, lastB, ← hc, ← hi, hL]
      have hx32 : (lastB key label i).size = 32 := by rw [← hi, lastB]; exact hmacB_size _ _
      have hall : A ++ lastB key label i = allB key label i := by rw [← hi, allB, hA]
      rw [hlast] at hh
      obtain ⟨X, hX⟩ : ∃ X, lastB key label i = X := ⟨_, rfl⟩
      rw [hX] at hh hx32 hall
      have hadd : ∀ W, (Op.stringOp .add A X).run Try.prog W = .ok (.string (A ++ X)) W := fun W => run_string_add_sum W _ _ (by omega)
      have HH := Lib.hid hh; have HALL := Lib.hid hall; have HI := Lib.hid hi; have HX := Lib.hid hX; have HK := Lib.hid hkg
      have hcv := hcast wr.heap.size (wr.alloc (.cells #[.int .u8 ((i : Nat) : Int)] 5)) (Blk.new' rfl)
      clear hcast hh hlast hall hi hX hA hL hc hcs has hls hn2 hkg
      go_wp2_with fail
      refine (HH.out (wr.heap.size + 1) _ 9 ((Blk.new' (by simp)).conv rfl)).mono ?_
      rintro e W2 ⟨rfl, hb2⟩
      have HB2 : Below w.heap.size w W2 := Below.thn (by (repeat (first | (with_reducible assumption) | (with_reducible exact Below.refl _ _) | with_reducible apply bl_drewN | with_reducible apply Below.drew | (with_reducible apply bl_alloc; focus (first | (simp; done) | (simp; omega) | omega)) | (with_reducible apply bl_set; focus (first | (simp; done) | (simp; omega) | omega))))) hb2 (by simp; omega)
      clear hb2 hcv
      go_wp2_with fail
      go_roundg gk
      case rel => exact ⟨i, by have := HI.out; have := HK.out; omega, by rw [HALL.out], by rw [HX.out], by have := HI.out; first | (simp; done) | (simp; omega), HB2⟩
      case measure => omega
set_option maxHeartbeats 4000000 in
set_option maxRecDepth 20000 in
theorem derive_bad (key label : ByteArray) (n : Int) (w : World) (hn : n < 0 ∨ 8160 < n) :
    Calls Try.prog 30 #[.string key, .string label, .int .i64 n] w fun e w' => e = .returned (.tuple #[.string ⟨#[]⟩, .int .i64 7]) ∧ Below w.heap.size w w' := by
  by_cases h0 : n < 0
  · clear hn
    go_enter Try.func30, Try.ntmps30
    go_wp2_with fail
    go_ret2
    exact ⟨rfl, Below.refl _ _⟩
  · have h1 : 8160 < n := by omega
    clear hn
    go_enter Try.func30, Try.ntmps30
    go_wp2_with fail
    go_ret2
    exact ⟨rfl, Below.refl _ _⟩
end Go.Proofs.Ytgceepjfnncilaa
