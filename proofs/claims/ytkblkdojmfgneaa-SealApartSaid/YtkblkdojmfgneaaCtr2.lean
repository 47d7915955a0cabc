/- strings.Builder: Write; Len, String as they are wanted here. -/
import Derived.Test.YtkblkdojmfgneaaCtr1
import Derived.Test.YtkblkdojmfgneaaShelf
import Derived.Lib.OthersKept
import Derived.Lib.FrozenHead2
import Derived.Lib.BufferWrite
namespace Go.Proofs.Ytkblkdojmfgneaa
open Go.RowKit

theorem Below.via {n b : Nat} {w0 w w' : World} (H : Below n w0 w) (hb : Below b w w') (h : n ≤ b) : Below n w0 w' :=
  ⟨hb.os.trans H.os, hb.tape.trans H.tape, hb.output.trans H.output, Nat.le_trans H.size hb.size, fun k hk => (hb.block k (by omega)).trans (H.block k hk)⟩
theorem isb_below {T e : TypeId} {B b : Nat} {bs : List Value} {w w' : World} (h : Lib.IsBuilderF T e B b bs w) (g : Below w.heap.size w w') : Lib.IsBuilderF T e B b bs w' := by
  have key : ∀ p, Lib.BuilderAtF T e B b p bs w → Lib.BuilderAtF T e B b p bs w' := by
    rintro p ⟨h1, v, h2, h3, h4⟩
    refine ⟨h1, v, (g.block b (Array.getElem?_eq_some_iff.1 h2).1).trans h2, ⟨h3.1, ?_⟩, h4⟩
    rcases h3.2 with h5 | ⟨q, c, cur, fz, h5, h6, h7, h8⟩
    · exact Or.inl h5
    · exact Or.inr ⟨q, c, cur, fz, h5, h6, (g.block q (Array.getElem?_eq_some_iff.1 h7).1).trans h7, h8⟩
  exact h.imp (key _) (key _)
theorem isb_lt {T e : TypeId} {B b : Nat} {bs : List Value} {w : World} (h : Lib.IsBuilderF T e B b bs w) : b < w.heap.size := h.elim (fun x => x.lt) (fun x => x.lt)
theorem Blk.kept {w w' : World} {q b : Nat} {cs : Array Value} {t : TypeId} (B : Blk w q cs t) (h : Lib.OthersKept 5 (some b) w w') (hq : q ≠ b) (ht : t ≠ 5) : Blk w' q cs t :=
  ⟨h q _ B.out (by simpa using hq) (fun c fz e => ht (by simp at e; exact e.2.1))⟩
theorem Try.lays240 : Go.Proofs.Lays.n240 Try.prog Try.lays105_ren := { Try.lays105 with }
set_option maxHeartbeats 4000000 in
set_option maxRecDepth 100000 in
theorem wbytes (b g cap : Nat) (out l : List UInt8) (cs : Array Value) (t : TypeId) (ht : t ≠ 5) (hgb : g ≠ b) (w : World) (h : Lib.IsBuilderF 95 5 b b (Lib.byteCells out) w) (G : Blk w g cs t) (hcs : ∀ j, j < l.length → cs[j]? = some (bval (l.getD j 0))) (hl : out.length + l.length ≤ 1000000) :
    Calls Try.prog 53 #[.pointer (some ⟨b, 0, none⟩), .slice (some ⟨g, 0, none⟩) l.length cap] w fun e w' => ∃ v, e = .returned v ∧ Lib.IsBuilderF 95 5 b b (Lib.byteCells (out ++ l)) w' ∧ Below b w w' ∧ Lib.OthersKept 5 (some b) w w' := by
  obtain ⟨i0, hi0, hz0, hz1, hz2⟩ := info_parts info5
  have hBw := Nat.le_of_lt (isb_lt h)
  have hlb : (Lib.byteCells l).length = l.length := Lib.byteCells_length _
  have hlo : (Lib.byteCells out).length = out.length := Lib.byteCells_length _
  obtain ⟨m, hm⟩ : ∃ m, l.length = m := ⟨_, rfl⟩
  obtain ⟨bs, hbs⟩ : ∃ bs, Lib.byteCells out = bs := ⟨_, rfl⟩
  rw [hbs] at h hlo
  rw [hm]
  go_enter Try.func53, Try.ntmps53
  go_wp2_with fail
  refine (Any.Builder_copyCheck_k Try.lays240 Try.Builder_Extra_105.toX72 b b bs _ h).mono ?_
  rintro e w1 ⟨rfl, h1, hb1, hk1⟩
  have G1 := G.kept hk1 hgb ht
  obtain ⟨hB, v, hbk, hown, hne⟩ := h1
  have c0 : w1.cell? ⟨b, 0, none⟩ = some (.pointer (some ⟨b, 0, none⟩)) := by rw [Lib.cell_of_heap hbk]; rfl
  have c1 : w1.cell? ⟨b, 1, none⟩ = some v := by rw [Lib.cell_of_heap hbk]; rfl
  go_wp2_with (at_builtin; refine wpList_append_ownF _ rfl _ _ 36 rfl b 5 i0 (.int .u8 0) 1 1 Try.underlying36 hi0 hz0 hz1 hz2 rfl (by decide) _ _ _ rfl hown ⟨g, 0, none⟩ m cap (Lib.byteCells l) rfl (by rw [hlb, hm, Nat.mul_one]) ?c1 ?c2 ?c3 ?c4 ?c5 ?_)
  case c1 =>
    intro j u hj
    have hjl : j < l.length := by have := (List.getElem?_eq_some_iff.1 hj).1; omega
    rw [Addr.add_mid, Nat.zero_add, G1.cell, hcs j hjl, ← hj]
    simp only [Lib.byteCells, List.getElem?_map, List.getD_eq_getElem?_getD, List.getElem?_eq_getElem hjl]
    rfl
  case c2 => exact Lib.byteCells_one _
  case c3 => unfold maxLen; omega
  case c4 => omega
  case c5 => have := hb1.size; omega
  intro v' w2 hown' hgrow _
  have hlt : b < w1.heap.size := (Array.getElem?_eq_some_iff.1 hbk).1
  have hb2 : w2.heap[b]? = some (.cells #[.pointer (some ⟨b, 0, none⟩), v] 95 (0, 0)) := by
    rw [hgrow.block b hlt (fun e => hne e.symm)]
    exact hbk
  have d0 : w2.cell? ⟨b, 0, none⟩ = some (.pointer (some ⟨b, 0, none⟩)) := by rw [Lib.cell_of_heap hb2]; rfl
  have d1 : w2.cell? ⟨b, 1, none⟩ = some v := by rw [Lib.cell_of_heap hb2]; rfl
  have f1 : w2.frozen? ⟨b, 1, none⟩ = false := Lib.frozen_of_heap hb2 1
  obtain ⟨ao, n', cap', rfl⟩ : ∃ ao n' cap, v' = .slice ao n' cap := by
    rcases hown'.2 with ⟨hv, _⟩ | ⟨g, cap, cur, fz, hv, _⟩
    · exact ⟨_, _, _, hv⟩
    · exact ⟨_, _, _, hv⟩
  go_wp2_with fail
  go_ret2
  refine ⟨_, rfl, ?_, ?_, (hk1.grown hgrow (Lib.ownsRowF_kind hown)).setCell ⟨b, 1, none⟩ rfl _⟩
  · refine .inr ?_
    have e1 : Lib.byteCells (out ++ l) = bs ++ Lib.byteCells l := by rw [← hbs]; simp [Lib.byteCells]
    rw [e1]
    exact Lib.BuilderAtF.put hB hb2 (bs' := bs ++ Lib.byteCells l) (by rw [List.length_append, hlb, hm, hlo]; exact hown') Try.Builder_Extra_105.neB5
  · exact (hb1.grown hgrow (by have := hb1.size; omega) (fun k hk => (hown.lt k hk).1)).setCell (p := ⟨b, 1, none⟩) hB _
theorem blen (b : Nat) (out : List UInt8) (w : World) (h : Lib.IsBuilderF 95 5 b b (Lib.byteCells out) w) :
    Calls Try.prog 52 #[.pointer (some ⟨b, 0, none⟩)] w fun e w' => e = .returned (.int .i64 (out.length : Nat)) ∧ w' = w :=
  (Try.Builder_Len_f b b _ w h).mono fun e w' h => by rw [Lib.byteCells_length] at h; exact h
theorem bstr (b : Nat) (out : List UInt8) (w : World) (h : Lib.IsBuilderF 95 5 b b (Lib.byteCells out) w) :
    Calls Try.prog 54 #[.pointer (some ⟨b, 0, none⟩)] w fun e w' => e = .returned (.string ⟨out.toArray⟩) ∧ Below b w w' :=
  (Try.Builder_String_any_k b b out w h (Nat.le_of_lt (isb_lt h))).mono fun _ _ h => ⟨h.1, h.2.2.1⟩
end Go.Proofs.Ytkblkdojmfgneaa
