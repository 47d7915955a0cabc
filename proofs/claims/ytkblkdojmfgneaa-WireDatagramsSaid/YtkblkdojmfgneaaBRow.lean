/- Rows of bytes in memory, cell by cell; a text made bytes, and bytes made a text. -/
import Derived.Test.YtkblkdojmfgneaaStr
import Derived.Test.YtkblkdojmfgneaaBase
import Derived.Laws.IdiomCopy
import Derived.Laws.AppendOwn
import Derived.Lib.ConvBytes
import Derived.Lib.SlBytesRow
import Derived.Lib.LazyBuf
namespace Go.Proofs.Ytkblkdojmfgneaa
open Go.RowKit

def bval (c : UInt8) : Value := .int .u8 (c.toNat : Nat)
structure BRow (w : World) (g : Nat) (b : List UInt8) : Prop where
  lt : g < w.heap.size
  cell : ∀ i, i < b.length → w.cell? ⟨g, i, none⟩ = some (bval (b.getD i 0))
  frz : ∀ i, i < b.length → w.frozen? ⟨g, i, none⟩ = false
theorem BRow.keep {w w' : World} {g : Nat} {b : List UInt8} (h : BRow w g b) (hs : w.heap.size ≤ w'.heap.size) (hk : w'.heap[g]? = w.heap[g]?) : BRow w' g b :=
  ⟨Nat.lt_of_lt_of_le h.lt hs, fun i hi => (World.cell?_of_block (a := ⟨g, i, none⟩) hk).trans (h.cell i hi), fun i hi => (World.frozen?_of_block (a := ⟨g, i, none⟩) hk).trans (h.frz i hi)⟩
theorem BRow.below {w w' : World} {g : Nat} {b : List UInt8} (h : BRow w g b) (hb : Below w.heap.size w w') : BRow w' g b := h.keep hb.size (hb.block g h.lt)
theorem BRow.set_ne {w : World} {g : Nat} {b : List UInt8} (h : BRow w g b) {a : Addr} (ha : g ≠ a.block) (v : Value) : BRow (w.setCell a v) g b := h.keep (by simp [World.setCell]) (Below.heap_setCell _ _ _ _ ha)
theorem BRow.set {w : World} {g : Nat} {b : List UInt8} (h : BRow w g b) {k : Nat} (hk : k < b.length) (c : UInt8) : BRow (w.setCell ⟨g, k, none⟩ (bval c)) g (b.set k c) := by
  refine ⟨by simp [World.setCell]; exact h.lt, fun i hi => ?_, fun i hi => ?_⟩
  · rw [List.length_set] at hi
    by_cases e : k = i
    · subst e
      rw [World.cell?_setCell_same (w := w) (a := ⟨g, k, none⟩) (v := bval c) (h := h.cell k hi)]
      simp [List.getD, hk]
    · rw [World.cell?_setCell_other (w := w) (a := ⟨g, k, none⟩) (b := ⟨g, i, none⟩) (v := bval c) (h := by simp), h.cell i hi]
      simp [List.getD, List.getElem?_set_ne e]
  · rw [List.length_set] at hi
    rw [World.frozen?_setCell]; exact h.frz i hi
theorem BRow.sets {w : World} {g : Nat} {b : List UInt8} (h : BRow w g b) (o : Nat) (l : List UInt8) (hl : o + l.length ≤ b.length) : BRow (w.setCells g o (l.map bval)) g (b.take o ++ l ++ b.drop (o + l.length)) := by
  have hlen : (b.take o ++ l ++ b.drop (o + l.length)).length = b.length := by simp; omega
  have hml : (l.map bval).length = l.length := by simp
  have hsz : ∀ (vs : List Value) (o : Nat) (w : World), (w.setCells g o vs).heap.size = w.heap.size := by
    intro vs
    induction vs with
    | nil => intro o w; rfl
    | cons v r ih => intro o w; exact (ih _ _).trans (by simp [World.setCell])
  refine ⟨by rw [hsz]; exact h.lt, fun i hi => ?_, fun i hi => ?_⟩
  · rw [hlen] at hi
    by_cases hin : o ≤ i ∧ i < o + l.length
    · obtain ⟨j, rfl⟩ : ∃ j, i = o + j := ⟨i - o, by omega⟩
      have hj : j < l.length := by omega
      have := World.cell?_setCells_in g (l.map bval) o w (fun q hq => by rw [h.cell (o + q) (by rw [hml] at hq; omega)]; rfl) j (by rw [hml]; exact hj)
      rw [this]
      have hlo : (b.take o).length = o := by simp; omega
      simp [List.getD, List.getElem?_append, hlo, hj, show ¬ o + j < o by omega]
    · rw [World.cell?_setCells_out g (l.map bval) o w ⟨g, i, none⟩ (fun _ _ => by rw [hml]; show i < o ∨ o + l.length ≤ i; omega), h.cell i hi]
      congr 2
      simp only [List.getD]
      congr 1
      rcases Nat.lt_or_ge i o with h1 | h1
      · rw [List.append_assoc, List.getElem?_append_left (by simp; omega), List.getElem?_take_of_lt h1]
      · rw [List.getElem?_append_right (by simp; omega), List.getElem?_drop]
        congr 1
        simp; omega
  · rw [hlen] at hi
    rw [World.frozen?_setCells]; exact h.frz i hi
theorem sets_below {w : World} {g n : Nat} (hg : n ≤ g) : ∀ (vs : List Value) (o : Nat) {w0 : World}, Below n w0 w → Below n w0 (w.setCells g o vs) := by
  intro vs
  induction vs generalizing w with
  | nil => intro o w0 h; exact h
  | cons v r ih => intro o w0 h; exact ih (o + 1) (h.setCell (p := ⟨g, o, none⟩) hg v)
theorem sets_keep {g q : Nat} (hq : q ≠ g) : ∀ (vs : List Value) (o : Nat) (w : World), (w.setCells g o vs).heap[q]? = w.heap[q]? := by
  intro vs
  induction vs with
  | nil => intro o w; rfl
  | cons v r ih => intro o w; exact (ih _ _).trans (Below.heap_setCell _ _ _ _ hq)
/-- '[]byte(s)'. -/
theorem conv_row (w : World) (e : TypeId) (s : ByteArray) : BRow (Lib.bytesWorld w e s) w.heap.size s.data.toList := by
  refine ⟨by rw [Lib.bytesWorld_size]; omega, fun i hi => ?_, fun i hi => ?_⟩
  · exact Lib.bytesWorld_cell w e s i hi
  · have hsz : s.size ≤ (Lib.bytesCells w e s).size := by simp [Lib.bytesCells]
    have hi' : i < s.size := hi
    simp only [World.frozen?, Lib.bytesWorld_at_new]
    simp; omega
theorem conv_below (w : World) (e : TypeId) (s : ByteArray) : Below w.heap.size w (Lib.bytesWorld w e s) := by
  refine ⟨rfl, rfl, rfl, by rw [Lib.bytesWorld_size]; omega, fun k hk => Lib.bytesWorld_at_old w e s k hk⟩
/-- 'string(b)'. -/
theorem row_bytes {w : World} {g : Nat} {b : List UInt8} (h : BRow w g b) : Lib.Bytes w g 0 ⟨b.toArray⟩ := fun i hi => by
  have hi' : i < b.length := by have : (⟨b.toArray⟩ : ByteArray).size = b.length := by show b.toArray.size = _; simp
                                omega
  rw [Nat.zero_add, h.cell i hi']
  simp only [bval, List.getD, List.getElem?_eq_getElem hi', Option.getD_some]
  rfl
end Go.Proofs.Ytkblkdojmfgneaa
