/- Package hmac: pad, Sum. -/
import Derived.Test.YtgceepjfnncilaaHmacL
import Derived.Test.YtgceepjfnncilaaSumsW
namespace Go.Proofs.Ytgceepjfnncilaa
open Go.RowKit

theorem sum_xor8 (a c : UInt8) : bits .xor .u8 ((a.toNat : Nat) : Int) ((c.toNat : Nat) : Int) = (((a ^^^ c).toNat : Nat) : Int) := by
  rw [u8_xor_nat _ _ a.toNat_lt c.toNat_lt]; simp
/-- The block, the first i of its bytes turned. -/
def xorAt (c : UInt8) (l : List UInt8) (i : Nat) : List UInt8 := (l.take i).map (· ^^^ c) ++ l.drop i
theorem xorAt_len (c : UInt8) (l : List UInt8) (i : Nat) : (xorAt c l i).length = l.length := by
  simp [xorAt]; omega
theorem xorAt_get (c : UInt8) (l : List UInt8) (i : Nat) (h : i < l.length) : (xorAt c l i).getD i 0 = l.getD i 0 := by
  unfold xorAt
  rw [List.getD_eq_getElem?_getD, List.getElem?_append_right (by simp; omega), List.getD_eq_getElem?_getD]
  simp [Nat.min_eq_left (Nat.le_of_lt h)]
theorem xorAt_next (c : UInt8) (l : List UInt8) (i : Nat) (h : i < l.length) : (xorAt c l i).set i (l.getD i 0 ^^^ c) = xorAt c l (i + 1) := by
  have hl : ((l.take i).map (· ^^^ c)).length = i := by simp; omega
  unfold xorAt
  rw [List.set_append_right _ _ (by omega), hl, Nat.sub_self, List.drop_eq_getElem_cons h, List.set_cons_zero, List.take_add_one, List.getElem?_eq_getElem h, List.getD_eq_getElem?_getD, List.getElem?_eq_getElem h]
  simp only [Option.toList, List.map_append, List.map_cons, List.map_nil, List.append_assoc, List.cons_append, List.nil_append, Option.getD_some]
theorem xorAt_all (c : UInt8) (l : List UInt8) (n : Nat) (h : l.length = n) : xorAt c l n = xorL c l := by
  unfold xorAt xorL
  rw [List.take_of_length_le (by omega), List.drop_of_length_le (by omega), List.append_nil]
theorem run_setCells_rows (b : Nat) (K : ByteArray) (W : World) (B : Blk W b (List.replicate 64 (Value.int .u8 0)).toArray 85) (hK : K.size ≤ 64) :
    (Builtin.copy_ #[30, 9] 3 #[.slice (some ⟨b, 0, none⟩) 64 64, .string K]).run Try.prog W = .ok (.int .i64 K.size) (W.setCells b 0 (K.data.toList.map bval)) ∧
    BRow (W.setCells b 0 (K.data.toList.map bval)) b (padL K.data.toList) ∧ Put b W (W.setCells b 0 (K.data.toList.map bval)) := by
  have R0 : BRow W b (List.replicate 64 0) := ⟨B.lt, fun i hi => by
    rw [B.cell, List.getElem?_toArray, List.getElem?_replicate, if_pos (by simpa using hi), List.getD_eq_getElem?_getD, List.getElem?_replicate, if_pos (by simpa using hi)]; rfl, fun i _ => B.frozen i⟩
  have hkl : K.data.toList.length = K.size := rfl
  have hcs := run_copy_string (P := Try.prog) W 30 9 3 5 b 0 64 64 K Try.underlying30 Try.sizeOf5 (by omega)
    (fun j hj => by rw [Nat.zero_add, R0.cell j (by simp; omega)]; rfl)
    (fun j _ => B.frozen _)
  have R1 := R0.sets 0 K.data.toList (by simp; omega)
  obtain ⟨h1, h2, h3, h4, h5⟩ := setCells_os b (K.data.toList.map bval) 0 W
  refine ⟨?_, ?_, h1, h2, h3, h4, h5⟩
  · have hmap : (K.data.toList.map fun c => Value.int .u8 (c.toNat : Int)) = K.data.toList.map bval := rfl
    rw [← hmap]
    exact hcs
  · rw [List.take_zero, List.nil_append, Nat.zero_add, List.drop_replicate] at R1
    exact R1
set_option maxHeartbeats 4000000 in
set_option maxRecDepth 20000 in
theorem pad_any (key : ByteArray) (c : UInt8) (w : World) (hk : key.size ≤ 5000) :
    Calls Try.prog 46 #[.string key, .int .u8 ((c.toNat : Nat) : Int)] w fun e w' => e = .returned (.string (padB key c)) ∧ Below w.heap.size w w' := by
  obtain ⟨P, hP⟩ : ∃ P, padB key c = P := ⟨_, rfl⟩
  have hPl : P.data.toList = xorL c (padL (keyL key.data.toList)) := by rw [← hP]; rfl
  have hPs : P.size = 64 := by rw [← hP]; exact padB_size _ _
  have hkl : key.data.toList.length = key.size := rfl
  rw [hP]
  by_cases h64 : 64 < key.size
  · have hki : (64 : Int) < key.size := by omega
    have hkL : (sumB key).data.toList = keyL key.data.toList := by
      rw [sumB_list]; unfold keyL; rw [if_pos (by omega)]
    obtain ⟨K, hK⟩ : ∃ K, sumB key = K := ⟨_, rfl⟩
    have hKs : K.size = 32 := by rw [← hK]; exact sumB_size _
    have ht1 := fun b W t B => text_row b [key] key W t B (catB_one key) (by omega) (by simp)
    rw [hK] at ht1 hkL
    have hKl : K.data.toList.length = K.size := rfl
    have HT1 := Lib.hid ht1
    clear ht1 hK
    go_enter Try.func46, Try.ntmps46
    go_wp2_with fail
    refine (HT1.out w.heap.size _ 9 ((Blk.new' rfl).conv rfl)).mono ?_
    rintro e W1 ⟨rfl, hb1⟩
    have HB1 : Below w.heap.size w W1 := Below.thn (by (repeat (first | (with_reducible assumption) | (with_reducible exact Below.refl _ _) | with_reducible apply bl_drewN | with_reducible apply Below.drew | (with_reducible apply bl_alloc; focus (first | (simp; done) | (simp; omega) | omega)) | (with_reducible apply bl_set; focus (first | (simp; done) | (simp; omega) | omega))))) hb1
    have HB1s := HB1.size
    clear hb1
    have HKL := padL_len K.data.toList (by omega)
    obtain ⟨hcp, R, hp⟩ := run_setCells_rows W1.heap.size K (W1.alloc (.cells (List.replicate 64 (Value.int .u8 0)).toArray 85)) ((Blk.new' rfl).conv rfl) (by omega)
    have HB2 : Below w.heap.size w ((W1.alloc (.cells (List.replicate 64 (Value.int .u8 0)).toArray 85)).setCells W1.heap.size 0 (K.data.toList.map bval)) := hp.below (by omega) (by (repeat (first | (with_reducible assumption) | (with_reducible exact Below.refl _ _) | with_reducible apply bl_drewN | with_reducible apply Below.drew | (with_reducible apply bl_alloc; focus (first | (simp; done) | (simp; omega) | omega)) | (with_reducible apply bl_set; focus (first | (simp; done) | (simp; omega) | omega)))))
    obtain ⟨L, hL⟩ : ∃ L, padL K.data.toList = L := ⟨_, rfl⟩
    have hPL : P.data.toList = xorL c L := by rw [hPl, ← hL, hkL]
    rw [hL] at HKL R
    have HPL := Lib.hid hPL; have HPS := Lib.hid hPs
    obtain ⟨W2, hW2⟩ : ∃ W2, (W1.alloc (.cells (List.replicate 64 (Value.int .u8 0)).toArray 85)).setCells W1.heap.size 0 (K.data.toList.map bval) = W2 := ⟨_, rfl⟩
    rw [hW2] at hcp R HB2
    have hcp2 : (Builtin.copy_ #[30, 9] 3 #[.slice (some ⟨W1.heap.size, 0, none⟩) 64 64, .string K]).run Try.prog (W1.alloc (.cells #[Value.int .u8 0, Value.int .u8 0, Value.int .u8 0, Value.int .u8 0, Value.int .u8 0, Value.int .u8 0, Value.int .u8 0, Value.int .u8 0, Value.int .u8 0, Value.int .u8 0, Value.int .u8 0, Value.int .u8 0, Value.int .u8 0, Value.int .u8 0, Value.int .u8 0, Value.int .u8 0, Value.int .u8 0, Value.int .u8 0, Value.int .u8 0, Value.int .u8 0, Value.int .u8 0, Value.int .u8 0, Value.int .u8 0, Value.int .u8 0, Value.int .u8 0, Value.int .u8 0, Value.int .u8 0, Value.int .u8 0, Value.int .u8 0, Value.int .u8 0, Value.int .u8 0, Value.int .u8 0, Value.int .u8 0, Value.int .u8 0, Value.int .u8 0, Value.int .u8 0, Value.int .u8 0, Value.int .u8 0, Value.int .u8 0, Value.int .u8 0, Value.int .u8 0, Value.int .u8 0, Value.int .u8 0, Value.int .u8 0, Value.int .u8 0, Value.int .u8 0, Value.int .u8 0, Value.int .u8 0, Value.int .u8 0, Value.int .u8 0, Value.int .u8 0, Value.int .u8 0, Value.int .u8 0, Value.int .u8 0, Value.int .u8 0, Value.int .u8 0, Value.int .u8 0, Value.int .u8 0, Value.int .u8 0, Value.int .u8 0, Value.int .u8 0, Value.int .u8 0, Value.int .u8 0, Value.int .u8 0] 85)) = .ok (.int .i64 K.size) W2 := hcp
    clear hcp hp hW2 hPL hPl hPs hL hP
    obtain ⟨b, hb⟩ : ∃ b, W1.heap.size = b := ⟨_, rfl⟩
    have hbw : w.heap.size ≤ b := by omega
    rw [hb] at hcp2 R
    go_wp2_with fail
    go_loopg [16] 64 (fun gk t16 wr => ∃ i : Nat, t16 = .int .i64 i ∧ i + gk = 64 ∧ BRow wr b (xorAt c L i) ∧ Below w.heap.size w wr)
    case atStart => exact ⟨0, rfl, rfl, R, HB2⟩
    case round =>
      clear R HB2
      obtain ⟨i, rfl, hi, R, HB⟩ := hrel
      cases gk with
      | zero =>
        obtain rfl : i = 64 := by omega
        rw [xorAt_all c L 64 HKL] at R
        have hcv : (convert 30 9 (.slice (some ⟨b, 0, none⟩) 64 64)).run Try.prog wr = .ok (.string P) wr := by
          have h5 := Lib.run_convert_whole (P := Try.prog) wr 30 5 9 Try.underlying30 Try.underlying5 Try.underlying9 b 0 ⟨(xorL c L).toArray⟩ (row_bytes R) 64
          have hz : (⟨(xorL c L).toArray⟩ : ByteArray) = P := ba_ext HPL.out.symm
          rw [hz, HPS.out] at h5
          exact h5
        clear R hi
        go_wp2_with fail
        go_ret
        exact ⟨rfl, HB⟩
      | succ gk =>
        have hi' : (i : Int) < 64 := by omega
        have hil : i < L.length := by omega
        have hlen := xorAt_len c L i
        have hcell := R.cell i (by rw [hlen]; exact hil)
        rw [xorAt_get c L i hil] at hcell
        have hfz := R.frz i (by rw [hlen]; exact hil)
        have hbl := R.lt
        obtain ⟨x, hx⟩ : ∃ x, L.getD i 0 = x := ⟨_, rfl⟩
        have R2 := R.set (k := i) (by rw [hlen]; exact hil) (x ^^^ c)
        have hnx := xorAt_next c L i hil
        rw [hx] at hcell hnx
        rw [hnx] at R2
        unfold bval at hcell
        have hxr := sum_xor8 x c
        obtain ⟨y, hy⟩ : ∃ y, x ^^^ c = y := ⟨_, rfl⟩
        rw [hy] at hxr R2
        have HB2 : Below w.heap.size w (wr.setCell ⟨b, i, none⟩ (bval y)) := HB.setCell (p := ⟨b, i, none⟩) hbw _
        have HI := Lib.hid hi
        clear R hlen hnx hx hy hi HB
        go_upto_region 9 with fail
        refine wp_absQ (fun W => BRow W b (xorAt c L (i + 1)) ∧ Below w.heap.size w W) ⟨R2, HB2⟩ (fun W6 V6 => ?_)
        obtain ⟨R6, HB6⟩ := V6
        clear R2 HB2 hcell hfz hbl
        go_wp2_with fail
        go_roundg gk
        case rel => exact ⟨i + 1, by simp, by have := HI.out; omega, R6, HB6⟩
        case measure => omega
  · have hki : ¬ (64 : Int) < key.size := by omega
    have hkL : key.data.toList = keyL key.data.toList := by unfold keyL; rw [if_neg (by omega)]
    have HB1 : Below w.heap.size w w := Below.refl _ _
    have HB1s := HB1.size
    go_enter Try.func46, Try.ntmps46
    have HKL := padL_len key.data.toList (by omega)
    obtain ⟨hcp, R, hp⟩ := run_setCells_rows w.heap.size key (w.alloc (.cells (List.replicate 64 (Value.int .u8 0)).toArray 85)) ((Blk.new' rfl).conv rfl) (by omega)
    have HB2 : Below w.heap.size w ((w.alloc (.cells (List.replicate 64 (Value.int .u8 0)).toArray 85)).setCells w.heap.size 0 (key.data.toList.map bval)) := hp.below (by omega) (by (repeat (first | (with_reducible assumption) | (with_reducible exact Below.refl _ _) | with_reducible apply bl_drewN | with_reducible apply Below.drew | (with_reducible apply bl_alloc; focus (first | (simp; done) | (simp; omega) | omega)) | (with_reducible apply bl_set; focus (first | (simp; done) | (simp; omega) | omega)))))
    obtain ⟨L, hL⟩ : ∃ L, padL key.data.toList = L := ⟨_, rfl⟩
    have hPL : P.data.toList = xorL c L := by rw [hPl, ← hL, ← hkL]
    rw [hL] at HKL R
    have HPL := Lib.hid hPL; have HPS := Lib.hid hPs
    obtain ⟨W2, hW2⟩ : ∃ W2, (w.alloc (.cells (List.replicate 64 (Value.int .u8 0)).toArray 85)).setCells w.heap.size 0 (key.data.toList.map bval) = W2 := ⟨_, rfl⟩
    rw [hW2] at hcp R HB2
    have hcp2 : (Builtin.copy_ #[30, 9] 3 #[.slice (some ⟨w.heap.size, 0, none⟩) 64 64, .string key]).run Try.prog (w.alloc (.cells #[Value.int .u8 0, Value.int .u8 0, Value.int .u8 0, Value.int .u8 0, Value.int .u8 0, Value.int .u8 0, Value.int .u8 0, Value.int .u8 0, Value.int .u8 0, Value.int .u8 0, Value.int .u8 0, Value.int .u8 0, Value.int .u8 0, Value.int .u8 0, Value.int .u8 0, Value.int .u8 0, Value.int .u8 0, Value.int .u8 0, Value.int .u8 0, Value.int .u8 0, Value.int .u8 0, Value.int .u8 0, Value.int .u8 0, Value.int .u8 0, Value.int .u8 0, Value.int .u8 0, Value.int .u8 0, Value.int .u8 0, Value.int .u8 0, Value.int .u8 0, Value.int .u8 0, Value.int .u8 0, Value.int .u8 0, Value.int .u8 0, Value.int .u8 0, Value.int .u8 0, Value.int .u8 0, Value.int .u8 0, Value.int .u8 0, Value.int .u8 0, Value.int .u8 0, Value.int .u8 0, Value.int .u8 0, Value.int .u8 0, Value.int .u8 0, Value.int .u8 0, Value.int .u8 0, Value.int .u8 0, Value.int .u8 0, Value.int .u8 0, Value.int .u8 0, Value.int .u8 0, Value.int .u8 0, Value.int .u8 0, Value.int .u8 0, Value.int .u8 0, Value.int .u8 0, Value.int .u8 0, Value.int .u8 0, Value.int .u8 0, Value.int .u8 0, Value.int .u8 0, Value.int .u8 0, Value.int .u8 0] 85)) = .ok (.int .i64 key.size) W2 := hcp
    clear hcp hp hW2 hPL hPl hPs hL hP
    obtain ⟨b, hb⟩ : ∃ b, w.heap.size = b := ⟨_, rfl⟩
    have hbw : w.heap.size ≤ b := by omega
    rw [hb] at hcp2 R
    go_wp2_with fail
    go_loopg [16] 64 (fun gk t16 wr => ∃ i : Nat, t16 = .int .i64 i ∧ i + gk = 64 ∧ BRow wr b (xorAt c L i) ∧ Below w.heap.size w wr)
    case atStart => exact ⟨0, rfl, rfl, R, HB2⟩
    case round =>
      clear R HB2
      obtain ⟨i, rfl, hi, R, HB⟩ := hrel
      cases gk with
      | zero =>
        obtain rfl : i = 64 := by omega
        rw [xorAt_all c L 64 HKL] at R
        have hcv : (convert 30 9 (.slice (some ⟨b, 0, none⟩) 64 64)).run Try.prog wr = .ok (.string P) wr := by
          have h5 := Lib.run_convert_whole (P := Try.prog) wr 30 5 9 Try.underlying30 Try.underlying5 Try.underlying9 b 0 ⟨(xorL c L).toArray⟩ (row_bytes R) 64
          have hz : (⟨(xorL c L).toArray⟩ : ByteArray) = P := ba_ext HPL.out.symm
          rw [hz, HPS.out] at h5
          exact h5
        clear R hi
        go_wp2_with fail
        go_ret
        exact ⟨rfl, HB⟩
      | succ gk =>
        have hi' : (i : Int) < 64 := by omega
        have hil : i < L.length := by omega
        have hlen := xorAt_len c L i
        have hcell := R.cell i (by rw [hlen]; exact hil)
        rw [xorAt_get c L i hil] at hcell
        have hfz := R.frz i (by rw [hlen]; exact hil)
        have hbl := R.lt
        obtain ⟨x, hx⟩ : ∃ x, L.getD i 0 = x := ⟨_, rfl⟩
        have R2 := R.set (k := i) (by rw [hlen]; exact hil) (x ^^^ c)
        have hnx := xorAt_next c L i hil
        rw [hx] at hcell hnx
        rw [hnx] at R2
        unfold bval at hcell
        have hxr := sum_xor8 x c
        obtain ⟨y, hy⟩ : ∃ y, x ^^^ c = y := ⟨_, rfl⟩
        rw [hy] at hxr R2
        have HB2 : Below w.heap.size w (wr.setCell ⟨b, i, none⟩ (bval y)) := HB.setCell (p := ⟨b, i, none⟩) hbw _
        have HI := Lib.hid hi
        clear R hlen hnx hx hy hi HB
        go_upto_region 9 with fail
        refine wp_absQ (fun W => BRow W b (xorAt c L (i + 1)) ∧ Below w.heap.size w W) ⟨R2, HB2⟩ (fun W6 V6 => ?_)
        obtain ⟨R6, HB6⟩ := V6
        clear R2 HB2 hcell hfz hbl
        go_wp2_with fail
        go_roundg gk
        case rel => exact ⟨i + 1, by simp, by have := HI.out; omega, R6, HB6⟩
        case measure => omega
end Go.Proofs.Ytgceepjfnncilaa
