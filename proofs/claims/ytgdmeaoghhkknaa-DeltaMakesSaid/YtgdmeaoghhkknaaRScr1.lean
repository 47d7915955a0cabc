/- The document's screens: blank; what memory holds of one. -/
import Derived.Test.YtgdmeaoghhkknaaScr3
namespace Go.Proofs.Ytgdmeaoghhkknaa
open Go.RowKit

theorem txt_snoc (n : Nat) : txt (List.replicate n 32) ++ ⟨#[32]⟩ = txt (List.replicate (n + 1) 32) := by
  apply ba_ext
  rw [ba_app]
  simp [txt, List.replicate_succ']
set_option maxHeartbeats 2000000 in
set_option maxRecDepth 20000 in
theorem rblank_any (n : Nat) (w : World) (hn : n ≤ 1000) : Calls Try.prog 36 #[.int .i64 n] w fun e w' => e = .returned (.string (txt (List.replicate n 32))) ∧ Below w.heap.size w w' := by
  go_enter Try.func36, Try.ntmps36
  go_wp2_with fail
  go_loopg [3, 4] n (fun g t3 t4 wr => ∃ j : Nat, t3 = .string (txt (List.replicate j 32)) ∧ t4 = .int .i64 j ∧ j + g = n ∧ Below w.heap.size w wr)
  case atStart => exact ⟨0, rfl, rfl, by omega, by (repeat (first | (with_reducible assumption) | (with_reducible exact Below.refl _ _) | with_reducible apply bl_drewN | with_reducible apply Below.drew | (with_reducible apply bl_alloc; focus (first | (simp; done) | (simp; omega) | omega)) | (with_reducible apply bl_set; focus (first | (simp; done) | (simp; omega) | omega))))⟩
  case round =>
    obtain ⟨j, rfl, rfl, hj, HB⟩ := hrel
    have HBs := HB.size
    have HJ := Lib.hid hj
    cases gk with
    | zero =>
      have hj' : ¬ (j : Int) < n := by omega
      obtain rfl : j = n := by omega
      clear hj
      go_wp2
      go_ret
      exact ⟨rfl, HB⟩
    | succ g =>
      have hj' : (j : Int) < n := by omega
      have hjn : j ≤ 1000 := by omega
      clear hj
      have radd : ∀ W, (Op.stringOp .add (txt (List.replicate j 32)) ⟨#[32]⟩).run Try.prog W = .ok (.string (txt (List.replicate j 32) ++ ⟨#[32]⟩)) W := fun W => run_string_add_sum W _ _ (by rw [txt_size, List.length_replicate]; show j + 1 ≤ _; omega)
      go_wp2_with fail
      go_roundg g
      case rel => exact ⟨j + 1, by rw [← txt_snoc], by simp, by have := HJ.out; omega, HB⟩
      case measure => omega

/-- Texts in a row of a block. -/
structure RowAt (w : World) (b off : Nat) (rows : List ByteArray) : Prop where
  lt : b < w.heap.size
  cell : ∀ j, j < rows.length → w.cell? ⟨b, off + j, none⟩ = some (.string (rows.getD j ⟨#[]⟩))
theorem RowAt.below {w w' : World} {b off : Nat} {rows : List ByteArray} (h : RowAt w b off rows) (g : Below w.heap.size w w') : RowAt w' b off rows :=
  ⟨Nat.lt_of_lt_of_le h.lt g.size, fun j hj => (g.cell (p := ⟨b, _, none⟩) h.lt).trans (h.cell j hj)⟩
abbrev RV (w h x y : Int) (v : Value) : Value := .agg #[.int .i64 w, .int .i64 h, .int .i64 x, .int .i64 y, v]
/-- A screen of the document. -/
def RScrAt (w : World) (v : Value) (s : Scr) : Prop := ∃ b off c, v = RV s.w s.h s.x s.y (.slice (some ⟨b, off, none⟩) s.h c) ∧ s.h ≤ c ∧ RowAt w b off (rowsL (txt s.b) s.w s.h)
theorem RScrAt.below {w w' : World} {v : Value} {s : Scr} (h : RScrAt w v s) (g : Below w.heap.size w w') : RScrAt w' v s := by
  obtain ⟨b, off, c, h1, h2, h3⟩ := h
  exact ⟨b, off, c, h1, h2, h3.below g⟩
theorem rowsL_length (t : ByteArray) (cw j : Nat) : (rowsL t cw j).length = j := by simp [rowsL]
theorem rowsL_get (t : ByteArray) (cw n j : Nat) (h : j < n) : (rowsL t cw n).getD j ⟨#[]⟩ = t.extract (j * cw) ((j + 1) * cw) := by
  simp [rowsL, List.getD, h]
end Go.Proofs.Ytgdmeaoghhkknaa
