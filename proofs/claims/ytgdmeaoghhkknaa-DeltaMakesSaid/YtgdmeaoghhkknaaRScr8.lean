/- The document's screens: Cells; slices.Equal of texts. -/
import Derived.Test.YtgdmeaoghhkknaaRScr6
import Derived.Test.YtgdmeaoghhkknaaScr2
namespace Go.Proofs.Ytgdmeaoghhkknaa
open Go.RowKit

theorem rows_join (t : ByteArray) (cw m : Nat) : t.extract 0 (m * cw) ++ t.extract (m * cw) ((m + 1) * cw) = t.extract 0 ((m + 1) * cw) := by
  apply ba_ext
  rw [ba_app, ba_extract, ba_extract, ba_extract, Nat.succ_mul, Nat.sub_zero, Nat.sub_zero, Nat.add_sub_cancel_left, List.drop_zero, List.take_add]

set_option maxHeartbeats 4000000 in
set_option maxRecDepth 20000 in
theorem rcells_any (s : Scr) (v : Value) (w : World) (R0 : RScrAt w v s) (hs : s.Dk) :
    Calls Try.prog 39 #[v] w fun e w' => e = .returned (.string (txt s.b)) ∧ Below w.heap.size w w' := by
  obtain ⟨b0, off0, c0, rfl, hc0, hr0⟩ := R0
  obtain ⟨cw, hcw⟩ : ∃ k, s.w = k := ⟨_, rfl⟩
  obtain ⟨ch, hch⟩ : ∃ k, s.h = k := ⟨_, rfl⟩
  have w2 : cw ≤ 80 := by rw [← hcw]; exact hs.w2
  have h2 : ch ≤ 24 := by rw [← hch]; exact hs.h2
  obtain ⟨t, ht⟩ : ∃ t, txt s.b = t := ⟨_, rfl⟩
  have hts : t.size = cw * ch := by rw [← ht, txt_size, hs.len, hcw, hch]
  rw [hch] at hc0
  rw [hcw, hch, ht] at hr0
  rw [hcw, hch, ht]
  have hn : cw * ch ≤ 1920 := wh_small w2 h2
  have HTS := Lib.hid hts
  have HR := Lib.hid hr0
  clear hcw hch ht hts hr0 hs
  go_enter Try.func39, Try.ntmps39
  go_wp2_with fail
  refine wp_absQ (fun W => RowAt W b0 off0 (rowsL t cw ch) ∧ Below w.heap.size w W) ⟨HR.out.below (by (repeat (first | (with_reducible assumption) | (with_reducible exact Below.refl _ _) | with_reducible apply bl_drewN | with_reducible apply Below.drew | (with_reducible apply bl_alloc; focus (first | (simp; done) | (simp; omega) | omega)) | (with_reducible apply bl_set; focus (first | (simp; done) | (simp; omega) | omega))))), by (repeat (first | (with_reducible assumption) | (with_reducible exact Below.refl _ _) | with_reducible apply bl_drewN | with_reducible apply Below.drew | (with_reducible apply bl_alloc; focus (first | (simp; done) | (simp; omega) | omega)) | (with_reducible apply bl_set; focus (first | (simp; done) | (simp; omega) | omega))))⟩ (fun W1 V0 => ?_)
  go_loopg [3, 9] ch (fun g t3 t9 wr => ∃ m : Nat, t3 = .string (t.extract 0 (m * cw)) ∧ t9 = .int .i64 m ∧ m + g = ch ∧ RowAt wr b0 off0 (rowsL t cw ch) ∧ Below w.heap.size w wr)
  case atStart => exact ⟨0, by rw [Nat.zero_mul, ByteArray.extract_eq_empty_iff.2 (by simp)]; rfl, rfl, by omega, V0⟩
  case round =>
    clear V0
    obtain ⟨m, rfl, rfl, hm, RB, HB⟩ := hrel
    have HBs := HB.size
    have HM := Lib.hid hm
    cases gk with
    | zero =>
      have hm' : ¬ (m : Int) < ch := by omega
      obtain rfl : m = ch := by omega
      clear hm
      go_wp2
      go_ret
      exact ⟨by rw [Nat.mul_comm, ← HTS.out, ByteArray.extract_zero_size]; rfl, HB⟩
    | succ g =>
      have hm' : (m : Int) < ch := by omega
      have hml : m < ch := by omega
      clear hm
      have hbl := RB.lt
      obtain ⟨r, hr⟩ : ∃ r, t.extract (m * cw) ((m + 1) * cw) = r := ⟨_, rfl⟩
      obtain ⟨q, hq⟩ : ∃ q, t.extract 0 (m * cw) = q := ⟨_, rfl⟩
      have hcell : wr.cell? ⟨b0, off0 + m, none⟩ = some (Value.string r) := by
        rw [RB.cell m (by rw [rowsL_length]; exact hml), rowsL_get _ _ _ _ hml, hr]
      have hqr : q ++ r = t.extract 0 ((m + 1) * cw) := by rw [← hq, ← hr]; exact rows_join t cw m
      have radd : ∀ W, (Op.stringOp .add q r).run Try.prog W = .ok (.string (t.extract 0 ((m + 1) * cw))) W := fun W => by
        rw [← hqr]
        refine run_string_add_sum W _ _ ?_
        rw [← ByteArray.size_append, hqr, ByteArray.size_extract]
        have := HTS.out
        omega
      rw [hq]
      clear hr hq hqr
      go_wp2_with fail
      go_roundg g
      case rel => exact ⟨m + 1, rfl, by simp, by have := HM.out; omega, RB, HB⟩
      case measure => omega

set_option maxHeartbeats 4000000 in
set_option maxRecDepth 20000 in
theorem eq_rows (b off c b' off' c' n : Nat) (rows : List ByteArray) (w : World) (R : RowAt w b off rows) (R' : RowAt w b' off' rows) (hn : rows.length = n) (hc : n ≤ c) (hc' : n ≤ c') (h1 : n ≤ 100000) :
    Calls Try.prog 38 #[.slice (some ⟨b, off, none⟩) n c, .slice (some ⟨b', off', none⟩) n c'] w fun e w' => e = .returned (.bool true) ∧ Below w.heap.size w w' := by
  have HR := Lib.hid R; have HR' := Lib.hid R'
  have HN := Lib.hid hn
  clear R R' hn
  go_enter Try.func38, Try.ntmps38
  go_wp2_with fail
  go_loopg [13] n (fun g t13 wr => ∃ m : Nat, t13 = .int .i64 m ∧ m + g = n ∧ RowAt wr b off rows ∧ RowAt wr b' off' rows ∧ Below w.heap.size w wr)
  case atStart => exact ⟨0, rfl, by omega, HR.out, HR'.out, Below.refl _ _⟩
  case round =>
    obtain ⟨m, rfl, hm, RA, RB, HB⟩ := hrel
    have HBs := HB.size
    clear HR HR'
    have HM := Lib.hid hm
    cases gk with
    | zero =>
      have hm' : ¬ (m : Int) < n := by omega
      clear hm
      go_wp2
      go_ret
      exact ⟨rfl, HB⟩
    | succ g =>
      have hm' : (m : Int) < n := by omega
      have hml : m < n := by omega
      clear hm
      have hbl := RA.lt
      have hbl' := RB.lt
      obtain ⟨r, hr⟩ : ∃ r, rows.getD m ⟨#[]⟩ = r := ⟨_, rfl⟩
      have hcell : wr.cell? ⟨b, off + m, none⟩ = some (Value.string r) := by
        rw [RA.cell m (by rw [HN.out]; exact hml), hr]
      have hcell' : wr.cell? ⟨b', off' + m, none⟩ = some (Value.string r) := by
        rw [RB.cell m (by rw [HN.out]; exact hml), hr]
      clear hr
      go_wp2_with fail
      go_quiet (fail)
      go_wp2_with fail
      go_roundg g
      case rel => exact ⟨m + 1, by simp, by have := HM.out; omega, RA.below (Below.drewN' (Nat.le_refl _) _), RB.below (Below.drewN' (Nat.le_refl _) _), Below.thn HB (Below.drewN' (Nat.le_refl _) _) HBs⟩
      case measure => omega
end Go.Proofs.Ytgdmeaoghhkknaa
