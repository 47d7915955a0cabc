/- Package delta: what of strings.Builder it wants; rows in blocks. -/
import Derived.Test.YtgdmeaoghhkknaaDel1
import Derived.Lib.OthersKept
namespace Go.Proofs.Ytgdmeaoghhkknaa
open Go.RowKit

theorem Below.via {n b : Nat} {w0 w w' : World} (H : Below n w0 w) (hb : Below b w w') (h : n ≤ b) : Below n w0 w' :=
  ⟨hb.os.trans H.os, hb.tape.trans H.tape, hb.output.trans H.output, Nat.le_trans H.size hb.size, fun k hk => (hb.block k (by omega)).trans (H.block k hk)⟩
theorem kept_below {e : TypeId} {b : Option Nat} {w w' : World} (h : Below w.heap.size w w') : Lib.OthersKept e b w w' := fun k o hk _ _ => (h.block k (Array.getElem?_eq_some_iff.1 hk).1).trans hk
theorem isb_below {T e : TypeId} {B b : Nat} {bs : List Value} {w w' : World} (h : Lib.IsBuilderF T e B b bs w) (g : Below w.heap.size w w') : Lib.IsBuilderF T e B b bs w' := by
  have key : ∀ p, Lib.BuilderAtF T e B b p bs w → Lib.BuilderAtF T e B b p bs w' := by
    rintro p ⟨h1, v, h2, h3, h4⟩
    refine ⟨h1, v, (g.block b (Array.getElem?_eq_some_iff.1 h2).1).trans h2, ⟨h3.1, ?_⟩, h4⟩
    rcases h3.2 with h5 | ⟨q, c, cur, fz, h5, h6, h7, h8⟩
    · exact Or.inl h5
    · exact Or.inr ⟨q, c, cur, fz, h5, h6, (g.block q (Array.getElem?_eq_some_iff.1 h7).1).trans h7, h8⟩
  exact h.imp (key _) (key _)
theorem isb_lt {T e : TypeId} {B b : Nat} {bs : List Value} {w : World} (h : Lib.IsBuilderF T e B b bs w) : b < w.heap.size := h.elim (fun x => x.lt) (fun x => x.lt)
theorem Blk.kept {w w' : World} {q b : Nat} {cs : Array Value} {t : TypeId} (B : Blk w q cs t) (h : Lib.OthersKept 5 (some b) w w') (hq : q ≠ b) (ht : t ≠ 5) : Blk w' q cs t :=
  ⟨h q _ B.out (by simpa using hq) (fun c fz e => ht (by simp at e; exact e.2.1))⟩
/-- Texts in a block of texts. -/
def RowsB (w : World) (g : Nat) (rows : List ByteArray) : Prop := ∃ cur, Blk w g cur 9 ∧ ∀ j, j < rows.length → cur[j]? = some (.string (rows.getD j ⟨#[]⟩))
theorem RowsB.below {w w' : World} {g : Nat} {rows : List ByteArray} (h : RowsB w g rows) (hb : Below w.heap.size w w') : RowsB w' g rows := by
  obtain ⟨cur, B, hc⟩ := h
  exact ⟨cur, B.below hb, hc⟩
theorem RowsB.kept {w w' : World} {g b : Nat} {rows : List ByteArray} (h : RowsB w g rows) (hk : Lib.OthersKept 5 (some b) w w') (hg : g ≠ b) : RowsB w' g rows := by
  obtain ⟨cur, B, hc⟩ := h
  exact ⟨cur, B.kept hk hg (by decide), hc⟩
theorem RowsB.cell {w : World} {g : Nat} {rows : List ByteArray} (h : RowsB w g rows) (j : Nat) (hj : j < rows.length) : w.cell? ⟨g, j, none⟩ = some (.string (rows.getD j ⟨#[]⟩)) := by
  obtain ⟨cur, B, hc⟩ := h
  rw [B.cell]; exact hc j hj
theorem RowsB.lt {w : World} {g : Nat} {rows : List ByteArray} (h : RowsB w g rows) : g < w.heap.size := by
  obtain ⟨cur, B, hc⟩ := h
  exact B.lt
theorem own_rowsB {w : World} {base : Nat} {v : Value} {cw ch : Nat} {t : ByteArray} (ho : w.ownsRow base 9 1 v ch (strs (rowsL t cw ch))) (h1 : 1 ≤ ch) :
    ∃ g c, v = .slice (some ⟨g, 0, none⟩) ch c ∧ base ≤ g ∧ RowsB w g (rowsL t cw ch) := by
  have hl := ho.1
  rcases ho.2 with ⟨_, h5⟩ | ⟨g, c, cur, rfl, h5, h6, h7, h8, h9, h10⟩
  · omega
  · refine ⟨g, c, rfl, h5, cur, ⟨h6⟩, fun j hj => ?_⟩
    rw [rowsL_length] at hj
    have h11 : (cur.toList.take (ch * 1))[j]? = cur.toList[j]? := List.getElem?_take_of_lt (by omega)
    rw [h10] at h11
    rw [← Array.getElem?_toList, ← h11]
    simp only [strs, List.getElem?_map]
    rw [List.getElem?_eq_getElem (by rw [rowsL_length]; exact hj)]
    simp [List.getD, hj, rowsL_length]
theorem Try.lays166 : Go.Proofs.Lays.n166 Try.prog Try.lays105_ren := { Try.lays105 with }
theorem wstr (b : Nat) (out : List UInt8) (s : ByteArray) (w : World) (h : Lib.IsBuilderF 70 5 b b (Lib.byteCells out) w) (hl : out.length + s.size ≤ 1000000) :
    Calls Try.prog 41 #[.pointer (some ⟨b, 0, none⟩), .string s] w fun e w' => ∃ v, e = .returned v ∧ Lib.IsBuilderF 70 5 b b (Lib.byteCells (out ++ s.data.toList)) w' ∧ Below b w w' ∧ Lib.OthersKept 5 (some b) w w' := by
  refine (Any.Builder_WriteString_k Try.lays166 Try.Builder_Extra_105 b b (Lib.byteCells out) s w h (by rw [Lib.byteCells_length]; omega) (Nat.le_of_lt (isb_lt h))).mono ?_
  rintro e w' ⟨rfl, h1, h2, h3⟩
  refine ⟨_, rfl, .inr ?_, h2, h3⟩
  have e1 : Lib.byteCells out ++ Lib.strCells s = Lib.byteCells (out ++ s.data.toList) := by simp [Lib.byteCells, Lib.strCells]
  rw [← e1]; exact h1
theorem bstr (b : Nat) (out : List UInt8) (w : World) (h : Lib.IsBuilderF 70 5 b b (Lib.byteCells out) w) :
    Calls Try.prog 43 #[.pointer (some ⟨b, 0, none⟩)] w fun e w' => e = .returned (.string ⟨out.toArray⟩) ∧ Below b w w' :=
  (Try.Builder_String_any_k b b out w h (Nat.le_of_lt (isb_lt h))).mono fun _ _ h => ⟨h.1, h.2.2.1⟩
end Go.Proofs.Ytgdmeaoghhkknaa
