/- The document's hmac: Derive; the fourth chapter's example. -/
import Derived.Test.YtgceepjfnncilaaRHmac1
namespace Go.Proofs.Ytgceepjfnncilaa
open Go.RowKit

set_option maxHeartbeats 4000000 in
set_option maxRecDepth 20000 in
theorem rderive_any (key label : ByteArray) (n : Nat) (w : World) (hk : key.size ≤ 4000) (hl : label.size ≤ 4000) (hn : n ≤ 4000) :
    Calls Try.prog 31 #[.string key, .string label, .int .i64 n] w fun e w' => e = .returned (.string (derB key label n)) ∧ Below w.heap.size w w' := by
  obtain ⟨N, hN⟩ : ∃ N, (n + 31) / 32 = N := ⟨_, rfl⟩
  have hcut : (allB key label N).extract 0 n = derB key label n := by rw [← hN]; rfl
  have HCUT := Lib.hid hcut; have HN := Lib.hid hN
  clear hcut hN
  go_enter Try.func31, Try.ntmps31
  go_wp2_with fail
  go_loopg [7, 8, 9] N (fun gk t7 t8 t9 wr => ∃ k : Nat, k + gk = N ∧ t7 = .string (allB key label k) ∧ t8 = .string (lastB key label k) ∧ t9 = .int .i64 ((k + 1 : Nat) : Int) ∧ Below w.heap.size w wr)
  case atStart => exact ⟨0, by omega, rfl, rfl, rfl, Below.refl _ _⟩
  case round =>
    obtain ⟨k, hkg, rfl, rfl, rfl, HB⟩ := hrel
    have has := allB_size key label k
    have hls := lastB_size key label k
    have HBs := HB.size
    have hn2 := HN.out
    have hkb : k ≤ 126 := by omega
    obtain ⟨A, hA⟩ : ∃ A, allB key label k = A := ⟨_, rfl⟩
    obtain ⟨L, hL⟩ : ∃ A, lastB key label k = A := ⟨_, rfl⟩
    rw [hA, hL]
    rw [hA] at has; rw [hL] at hls
    cases gk with
    | zero =>
      obtain rfl : k = N := by omega
      have hlt : ¬ (A.size : Int) < n := by omega
      have hle : (n : Int) ≤ A.size := by omega
      have hc := HCUT.out
      rw [hA] at hc
      clear hkg has hls hn2 hA hL HN HCUT
      go_wp2_with fail
      go_ret
      exact ⟨rfl, HB⟩
    | succ gk =>
      have hlt : (A.size : Int) < n := by omega
      obtain ⟨i, hi⟩ : ∃ i, k + 1 = i := ⟨_, rfl⟩
      rw [hi]
      have hi2 : i ≤ 127 := by omega
      have himod : (i : Int) % 256 = (i : Int) := by omega
      obtain ⟨c, hc⟩ : ∃ c : ByteArray, (⟨#[UInt8.ofNat i]⟩ : ByteArray) = c := ⟨_, rfl⟩
      have hcs : c.size = 1 := by rw [← hc]; rfl
      have hcast := fun b W B => cast_byte b i W B (by omega)
      rw [hc] at hcast
      have hh := fun W => rhsum_any key (L ++ label ++ c) W (by omega) (by rw [ByteArray.size_append, ByteArray.size_append]; omega)
      have hlast : hmacB key (L ++ label ++ c) = lastB key label i := by rw [← hi, lastB, ← hc, ← hi, hL]
      have hx32 : (lastB key label i).size = 32 := by rw [← hi, lastB]; exact hmacB_size _ _
      have hall : A ++ lastB key label i = allB key label i := by rw [← hi, allB, hA]
      rw [hlast] at hh
      obtain ⟨X, hX⟩ : ∃ X, lastB key label i = X := ⟨_, rfl⟩
      rw [hX] at hh hx32 hall
      have hadd : ∀ W, (Op.stringOp .add A X).run Try.prog W = .ok (.string (A ++ X)) W := fun W => run_string_add_sum W _ _ (by omega)
      have hadd1 : ∀ W, (Op.stringOp .add L label).run Try.prog W = .ok (.string (L ++ label)) W := fun W => run_string_add_sum W _ _ (by omega)
      have hadd2 : ∀ W, (Op.stringOp .add (L ++ label) c).run Try.prog W = .ok (.string (L ++ label ++ c)) W := fun W => run_string_add_sum W _ _ (by rw [ByteArray.size_append]; omega)
      have HH := Lib.hid hh; have HALL := Lib.hid hall; have HI := Lib.hid hi; have HX := Lib.hid hX; have HK := Lib.hid hkg
      have hcv := hcast wr.heap.size (wr.alloc (.cells #[.int .u8 ((i : Nat) : Int)] 5)) (Blk.new' rfl)
      clear hcast hh hlast hall hi hX hA hL hc hcs has hls hn2 hkg
      go_wp2_with fail
      refine (HH.out _).mono ?_
      rintro e W2 ⟨rfl, hb2⟩
      have HB2 : Below w.heap.size w W2 := Below.thn (by (repeat (first | (with_reducible assumption) | (with_reducible exact Below.refl _ _) | with_reducible apply bl_drewN | with_reducible apply Below.drew | (with_reducible apply bl_alloc; focus (first | (simp; done) | (simp; omega) | omega)) | (with_reducible apply bl_set; focus (first | (simp; done) | (simp; omega) | omega))))) hb2 (by simp; omega)
      clear hb2 hcv
      go_wp2_with fail
      go_roundg gk
      case rel => exact ⟨i, by have := HI.out; have := HK.out; omega, by rw [HALL.out], by rw [HX.out], by have := HI.out; first | (simp; done) | (simp; omega), HB2⟩
      case measure => omega
set_option maxHeartbeats 4000000 in
set_option maxRecDepth 20000 in
theorem awake03x_any (w : World) : Calls Try.prog 45 #[] w fun e w' => e = .returned (.bool true) ∧ Below w.heap.size w w' := by
  go_enter Try.func45, Try.ntmps45
  go_wp2_with fail
  refine (awake03_any w).mono ?_
  rintro e W1 ⟨rfl, hb⟩
  go_wp2_with fail
  go_ret
  exact ⟨rfl, hb⟩
set_option maxHeartbeats 4000000 in
set_option maxRecDepth 20000 in
theorem awake04_any (w : World) : Calls Try.prog 26 #[] w fun e w' => e = .returned (.bool true) ∧ Below w.heap.size w w' := by
  have hpre := jefe
  have hh := fun b W t B => hsum_row b ⟨#[74, 101, 102, 101]⟩ [⟨#[119, 104, 97, 116, 32, 100, 111, 32, 121, 97, 32, 119, 97, 110, 116, 32]⟩, ⟨#[102, 111, 114, 32, 110, 111, 116, 104, 105, 110, 103, 63]⟩] ⟨#[119, 104, 97, 116, 32, 100, 111, 32, 121, 97, 32, 119, 97, 110, 116, 32, 102, 111, 114, 32, 110, 111, 116, 104, 105, 110, 103, 63]⟩ W t B (by rfl) (by decide) (by decide) (by decide)
  obtain ⟨X, hX⟩ : ∃ X, hmacB ⟨#[74, 101, 102, 101]⟩ ⟨#[119, 104, 97, 116, 32, 100, 111, 32, 121, 97, 32, 119, 97, 110, 116, 32, 102, 111, 114, 32, 110, 111, 116, 104, 105, 110, 103, 63]⟩ = X := ⟨_, rfl⟩
  rw [hX] at hpre hh
  have HH := Lib.hid hh; have HP := Lib.hid hpre
  clear hh hpre hX
  go_enter Try.func26, Try.ntmps26
  go_wp2_with fail
  refine (awake03x_any w).mono ?_
  rintro e W1 ⟨rfl, hb⟩
  have hbs := hb.size
  go_wp2_with fail
  refine (HH.out W1.heap.size _ 9 ((Blk.new' rfl).conv rfl)).mono ?_
  rintro e W2 ⟨rfl, hb2⟩
  have HB2 : Below w.heap.size w W2 := Below.thn (by (repeat (first | (with_reducible assumption) | (with_reducible exact Below.refl _ _) | with_reducible apply bl_drewN | with_reducible apply Below.drew | (with_reducible apply bl_alloc; focus (first | (simp; done) | (simp; omega) | omega)) | (with_reducible apply bl_set; focus (first | (simp; done) | (simp; omega) | omega))))) hb2
  clear hb2
  go_wp2_with fail
  refine (Try.strings_HasPrefix X ⟨#[91, 220, 193, 70]⟩ _).mono ?_
  rintro e W3 ⟨rfl, rfl⟩
  rw [show (⟨#[91, 220, 193, 70]⟩ : ByteArray).data.toList = [91, 220, 193, 70] from rfl, HP.out]
  go_wp2_with fail
  go_ret
  exact ⟨rfl, HB2⟩
end Go.Proofs.Ytgceepjfnncilaa
