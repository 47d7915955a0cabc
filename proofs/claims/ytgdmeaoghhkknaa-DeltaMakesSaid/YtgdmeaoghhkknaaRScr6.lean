/- The document's screens: what a round of Put keeps; the rows behind one byte. -/
import Derived.Test.YtgdmeaoghhkknaaRScr5
namespace Go.Proofs.Ytgdmeaoghhkknaa
open Go.RowKit

/-- The round's state: the screen's own block A, the result's R, the rows at b. -/
structure RAt (w wr : World) (A R cw ch x y : Nat) (b off c : Nat) (l : List UInt8) : Prop where
  BA : Blk wr A #[.int .i64 cw, .int .i64 ch, .int .i64 x, .int .i64 y, .slice (some ⟨b, off, none⟩) ch c] 41
  BR : Blk wr R z41 41
  cap : ch ≤ c
  row : RowAt wr b off (rowsL (txt l) cw ch)
  bA : b ≠ A
  bR : b ≠ R
  AR : A ≠ R
  HB : Below w.heap.size w wr
  A0 : w.heap.size ≤ A
  R0 : w.heap.size ≤ R
theorem RAt.below {w wr w' : World} {A R cw ch x y b off c : Nat} {l : List UInt8} (h : RAt w wr A R cw ch x y b off c l) (g : Below wr.heap.size wr w') : RAt w w' A R cw ch x y b off c l :=
  ⟨h.BA.below g, h.BR.below g, h.cap, h.row.below g, h.bA, h.bR, h.AR, Below.thn h.HB g h.HB.size, h.A0, h.R0⟩
theorem RAt.setX {w wr : World} {A R cw ch x y b off c : Nat} {l : List UInt8} (h : RAt w wr A R cw ch x y b off c l) (x' : Nat) : RAt w (wr.setCell ⟨A, 2, none⟩ (.int .i64 x')) A R cw ch x' y b off c l :=
  ⟨h.BA.set.conv rfl, h.BR.set_ne h.AR.symm, h.cap, h.row.set_ne h.bA _, h.bA, h.bR, h.AR, h.HB.setCell (p := ⟨A, 2, none⟩) h.A0 _, h.A0, h.R0⟩
theorem RAt.setRows {w wr : World} {A R cw ch x y b off c : Nat} {l : List UInt8} (h : RAt w wr A R cw ch x y b off c l) {b' off' c' : Nat} {l' : List UInt8} (hc : ch ≤ c') (hr : RowAt wr b' off' (rowsL (txt l') cw ch)) (hA : b' ≠ A) (hR : b' ≠ R) :
    RAt w (wr.setCell ⟨A, 4, none⟩ (.slice (some ⟨b', off', none⟩) ch c')) A R cw ch x y b' off' c' l' :=
  ⟨h.BA.set.conv rfl, h.BR.set_ne h.AR.symm, hc, hr.set_ne hA _, hA, hR, h.AR, h.HB.setCell (p := ⟨A, 4, none⟩) h.A0 _, h.A0, h.R0⟩
theorem rowAt_ne {w : World} {b off A : Nat} {rows : List ByteArray} {cs : Array Value} {t : TypeId} (h : RowAt w b off rows) (hl : 0 < rows.length) (B : Blk w A cs t) (hn : ∀ (o : Nat) (s : ByteArray), cs[o]? ≠ some (Value.string s)) : b ≠ A := fun e => by
  subst e
  have := h.cell 0 hl
  rw [B.cell] at this
  exact hn _ _ this
theorem no_text5 {a b c d e : Value} (ha : ∀ s, a ≠ .string s) (hb : ∀ s, b ≠ .string s) (hc : ∀ s, c ≠ .string s) (hd : ∀ s, d ≠ .string s) (he : ∀ s, e ≠ .string s) : ∀ (o : Nat) (s : ByteArray), (#[a, b, c, d, e] : Array Value)[o]? ≠ some (.string s)
  | 0, s => by simpa using ha s
  | 1, s => by simpa using hb s
  | 2, s => by simpa using hc s
  | 3, s => by simpa using hd s
  | 4, s => by simpa using he s
  | _ + 5, s => by simp
/-- A whole screen is put there. -/
theorem RAt.put {w wr w1 : World} {A R cw ch x y b off c : Nat} {l : List UInt8} (h : RAt w wr A R cw ch x y b off c l) (g : Below wr.heap.size wr w1) (h1 : 1 ≤ ch) {x' y' b' off' c' : Nat} {l' : List UInt8} (hc : ch ≤ c') (hr : RowAt w1 b' off' (rowsL (txt l') cw ch)) :
    RAt w (((((w1.setCell ⟨A, 0, none⟩ (.int .i64 cw)).setCell ⟨A, 1, none⟩ (.int .i64 ch)).setCell ⟨A, 2, none⟩ (.int .i64 x')).setCell ⟨A, 3, none⟩ (.int .i64 y')).setCell ⟨A, 4, none⟩ (.slice (some ⟨b', off', none⟩) ch c')) A R cw ch x' y' b' off' c' l' := by
  have V := h.below g
  have hA : b' ≠ A := rowAt_ne hr (by rw [rowsL_length]; omega) V.BA (no_text5 (by simp) (by simp) (by simp) (by simp) (by simp))
  have hR : b' ≠ R := rowAt_ne hr (by rw [rowsL_length]; omega) V.BR (no_text5 (by simp) (by simp) (by simp) (by simp) (by simp))
  exact ⟨(((((V.BA.set).set).set).set).set).conv rfl, ((((V.BR.set_ne V.AR.symm).set_ne V.AR.symm).set_ne V.AR.symm).set_ne V.AR.symm).set_ne V.AR.symm, hc, ((((hr.set_ne hA _).set_ne hA _).set_ne hA _).set_ne hA _).set_ne hA _, hA, hR, V.AR,
    ((((V.HB.setCell (p := ⟨A, 0, none⟩) V.A0 _).setCell (p := ⟨A, 1, none⟩) V.A0 _).setCell (p := ⟨A, 2, none⟩) V.A0 _).setCell (p := ⟨A, 3, none⟩) V.A0 _).setCell (p := ⟨A, 4, none⟩) V.A0 _, V.A0, V.R0⟩
/-- The rows behind one byte. -/
theorem row_other (b : List UInt8) (cw x y j : Nat) (c : UInt8) (hx : x < cw) (h : j ≠ y) : (txt (b.set (y * cw + x) c)).extract (j * cw) ((j + 1) * cw) = (txt b).extract (j * cw) ((j + 1) * cw) := by
  have e1 : (j + 1) * cw = j * cw + cw := Nat.succ_mul _ _
  apply ba_ext
  rw [ba_extract, ba_extract]
  simp only [txt]
  apply List.ext_getElem?
  intro i
  rw [List.getElem?_take, List.getElem?_take]
  split
  · rename_i hi
    rw [List.getElem?_drop, List.getElem?_drop, List.getElem?_set_ne]
    intro e
    rcases Nat.lt_or_gt_of_ne h with hlt | hgt
    · have : (j + 1) * cw ≤ y * cw := Nat.mul_le_mul_right _ hlt
      omega
    · have : (y + 1) * cw ≤ j * cw := Nat.mul_le_mul_right _ hgt
      rw [Nat.succ_mul] at this
      omega
  · rfl
theorem row_turned (b : List UInt8) (cw ch x y : Nat) (c : UInt8) (hx : x < cw) (hy : y < ch) (hb : b.length = cw * ch) (r out : ByteArray) (i : Nat) (hi : i < out.size) (hc : out[i] = c) (hr : (txt b).extract (y * cw) ((y + 1) * cw) = r) :
    (txt (b.set (y * cw + x) c)).extract (y * cw) ((y + 1) * cw) = (r.extract 0 x ++ out.extract i (i + 1)) ++ r.extract (x + 1) r.size := by
  have e1 : (y + 1) * cw = y * cw + cw := Nat.succ_mul _ _
  have hle : (y + 1) * cw ≤ cw * ch := by rw [Nat.mul_comm cw]; exact Nat.mul_le_mul_right _ hy
  have hrd : r.data.toList = (b.drop (y * cw)).take cw := by
    rw [← hr, ba_extract]; simp only [txt]; congr 1; omega
  have hrl : r.size = cw := by
    show r.data.toList.length = cw
    rw [hrd, List.length_take, List.length_drop, hb]; omega
  have hod : (out.extract i (i + 1)).data.toList = [c] := by
    rw [ba_extract, show i + 1 - i = 1 from by omega]
    have hil : i < out.data.toList.length := hi
    rw [List.drop_eq_getElem_cons hil]
    simp only [List.take_succ_cons, List.take_zero]
    rw [← hc]; rfl
  apply ba_ext
  rw [ba_app, ba_app, hod, ba_extract, ba_extract, ba_extract, hrd, hrl]
  simp only [txt, List.drop_zero, Nat.sub_zero]
  rw [List.drop_set, if_neg (by omega), show y * cw + x - y * cw = x from by omega, show (y + 1) * cw - y * cw = cw from by omega]
  obtain ⟨d, hd⟩ : ∃ d, b.drop (y * cw) = d := ⟨_, rfl⟩
  have hdl : cw ≤ d.length := by rw [← hd, List.length_drop, hb]; omega
  rw [hd, List.take_set, List.take_take, Nat.min_eq_left (Nat.le_of_lt hx), List.drop_take]
  have hxl : x < (d.take cw).length := by rw [List.length_take]; omega
  rw [List.set_eq_take_append_cons_drop, if_pos hxl, List.take_take, Nat.min_eq_left (Nat.le_of_lt hx), List.append_assoc, List.drop_take]
  congr 1
  simp only [List.singleton_append]
  congr 1
  rw [List.take_of_length_le (l := List.take _ _) (by rw [List.length_take]; omega)]
end Go.Proofs.Ytgdmeaoghhkknaa
