/- A store of a whole struct into a variable that is a block of its own: the world behind it is of no form, but told. -/
import Derived.Test.YtgceepjfnncilaaBase
import Derived.Deep.MidRow
import Derived.Deep.RegionHeld3
namespace Go.Proofs.Ytgceepjfnncilaa
open Go.RowKit

/-- No block but b has turned. -/
structure Put (b : Nat) (w w' : World) : Prop where
  os : w'.os = w.os
  tape : w'.tape = w.tape
  output : w'.output = w.output
  size : w'.heap.size = w.heap.size
  keep : ∀ q, q ≠ b → w'.heap[q]? = w.heap[q]?
theorem Put.blk {b q : Nat} {w w' : World} {cs : Array Value} {t : TypeId} (h : Put b w w') (hq : q ≠ b) (B : Blk w q cs t) : Blk w' q cs t := ⟨(h.keep q hq).trans B.out⟩
theorem Put.below {b n : Nat} {w0 w w' : World} (h : Put b w w') (hb : n ≤ b) (H : Below n w0 w) : Below n w0 w' :=
  ⟨h.os.trans H.os, h.tape.trans H.tape, h.output.trans H.output, by rw [h.size]; exact H.size, fun q hq => (h.keep q (by omega)).trans (H.block q hq)⟩
theorem Put.cell {b : Nat} {w w' : World} (h : Put b w w') {p : Addr} (hp : p.block ≠ b) : w'.cell? p = w.cell? p := World.cell?_of_block (h.keep p.block hp)

theorem blk_there {w : World} {b : Nat} {cs : Array Value} {t : TypeId} (B : Blk w b cs t) : w.there b 0 cs.size := fun j hj => by
  rw [Nat.zero_add]
  exact ⟨by rw [B.cell]; simp [hj], B.frozen j⟩
theorem setCells_os (b : Nat) : ∀ (vs : List Value) (o : Nat) (w : World), (w.setCells b o vs).os = w.os ∧ (w.setCells b o vs).tape = w.tape ∧ (w.setCells b o vs).output = w.output ∧ (w.setCells b o vs).heap.size = w.heap.size ∧ ∀ q, q ≠ b → (w.setCells b o vs).heap[q]? = w.heap[q]?
  | [], _, _ => ⟨rfl, rfl, rfl, rfl, fun _ _ => rfl⟩
  | v :: r, o, w => by
    obtain ⟨h1, h2, h3, h4, h5⟩ := setCells_os b r (o + 1) (w.setCell ⟨b, o, none⟩ v)
    exact ⟨h1, h2, h3, h4.trans (by simp [World.setCell]), fun q hq => (h5 q hq).trans (Below.heap_setCell _ _ _ _ hq)⟩
theorem setCells_blk : ∀ (vs : List Value) (o : Nat) (w : World) (b : Nat) (cs : Array Value) (t : TypeId), Blk w b cs t → o + vs.length = cs.size → Blk (w.setCells b o vs) b ((cs.toList.take o ++ vs).toArray) t
  | [], o, w, b, cs, t, B, hs => by
    refine ⟨?_⟩
    have : (cs.toList.take o ++ []).toArray = cs := by
      rw [List.append_nil, List.take_of_length_le (by simp at hs; simp; omega)]
    rw [this]; exact B.out
  | v :: r, o, w, b, cs, t, B, hs => by
    have B1 := B.set (o := o) (v := v)
    have hs' : o + 1 + r.length = (cs.setIfInBounds o v).size := by simp at hs ⊢; omega
    have := setCells_blk r (o + 1) _ b _ t B1 hs'
    refine this.conv ?_
    congr 1
    have ho : o < cs.toList.length := by simp at hs ⊢; omega
    rw [Array.toList_setIfInBounds, List.take_add_one, List.take_set_of_le (Nat.le_refl o), List.getElem?_set_self ho]
    simp
/-- The store. -/
theorem wpList_put {P : Program} {ops : Array Oper} {rest : List Oper} {op : Oper} {a : Act} {w : World} {Q : Exit → Act → World → Prop} (hgd : op.guard = none) (ty : TypeId) (x y : Operand) (ho : op.op = .store ty x y)
    (b : Nat) (cs cells : Array Value) (t : TypeId) (hx : a.eval x = .pointer (some ⟨b, 0, none⟩)) (hy : a.eval y = .agg cells) (B : Blk w b cs t)
    (hi : (P.info? ty).map (·.size) = some cells.size) (hsz : cells.size = cs.size) (h1 : cells.all (·.oneCell') = true)
    (h : ∀ w', Put b w w' → Blk w' b cells t → wpList P ops Q rest (a.put op.dst undef) w') : wpList P ops Q (op :: rest) a w := by
  refine wpList_store_mid hgd ty x y ho b 0 cells hx hy (by rw [hsz]; exact blk_there B) hi h1 (h _ ?_ ?_)
  · obtain ⟨h1, h2, h3, h4, h5⟩ := setCells_os b cells.toList 0 w
    exact ⟨h1, h2, h3, h4, h5⟩
  · have := setCells_blk cells.toList 0 w b cs t B (by simp; omega)
    exact this.conv (by simp)
theorem wp_put {P : Program} {op : Oper} {a : Act} {w : World} {K : Act → World → Prop} {Q : Exit → Act → World → Prop} (ty : TypeId) (x y : Operand) (ho : op.op = .store ty x y)
    (b : Nat) (cs cells : Array Value) (t : TypeId) (hx : a.eval x = .pointer (some ⟨b, 0, none⟩)) (hy : a.eval y = .agg cells) (B : Blk w b cs t)
    (hi : (P.info? ty).map (·.size) = some cells.size) (hsz : cells.size = cs.size) (h1 : cells.all (·.oneCell') = true)
    (h : ∀ w', Put b w w' → Blk w' b cells t → K (a.put op.dst undef) w') : op.wp P a w K Q := by
  refine wp_store_mid ty x y ho b 0 cells hx hy (by rw [hsz]; exact blk_there B) hi h1 (h _ ?_ ?_)
  · obtain ⟨h1, h2, h3, h4, h5⟩ := setCells_os b cells.toList 0 w
    exact ⟨h1, h2, h3, h4, h5⟩
  · have := setCells_blk cells.toList 0 w b cs t B (by simp; omega)
    exact this.conv (by simp)

/-! Two variables set at once from two others: 's, q = x, y' -/
def pairB (ops : Array Oper) : Bool :=
  Region.noSelect ops && (ops.size == 4) && Region.free .any ops #[false, false, false, false] 0 && (Region.ready .any ops #[false, false, false, false]).contains 0 &&
  Region.free .any ops #[true, false, false, false] 1 && (Region.ready .any ops #[true, false, false, false]).contains 1 &&
  (Region.ready .any ops #[true, true, false, false] == [2]) && (Region.ready .any ops #[true, true, true, false] == [3]) && (Region.ready .any ops #[true, true, true, true] == [])
theorem wp_pair {P : Program} {id : Nat} {Q : Exit → Act → World → Prop} {a : Act} {W : World} {o0 o1 o2 o3 : Oper} (S : World → Prop) (v0 v1 : Value) (hm : P.follows .mixedOrders = true) (hB : pairB [o0, o1, o2, o3].toArray = true)
    (hS : S W.drew) (g0 : o0.guard = none) (g1 : o1.guard = none) (g2 : o2.guard = none) (g3 : o3.guard = none)
    (h0 : ∀ w, S w → (execOp a.eval o0).run P w = .ok (.value v0) w) (h1 : ∀ w, S w → (execOp (a.put o0.dst v0).eval o1).run P w = .ok (.value v1) w)
    (p0 : ∀ c a w, Q (.panic c) (a.put o0.dst v0) w → Q (.panic c) a w) (p1 : ∀ c a w, Q (.panic c) (a.put o1.dst v1) w → Q (.panic c) a w)
    (h2 : o2.wp P ((a.put o0.dst v0).put o1.dst v1) W.drew (fun a' w' => S w' ∧ o3.wp P a' w' (fun a'' w'' => S w'' ∧ Q .normal a'' w'') Q) Q) :
    (Code.region id [o0, o1, o2, o3].toArray true).wp P Q a W := by
  simp only [pairB, Bool.and_eq_true, beq_iff_eq] at hB
  obtain ⟨⟨⟨⟨⟨⟨⟨⟨hsel, _⟩, f0⟩, r0⟩, f1⟩, r1⟩, r2⟩, r3⟩, r4⟩ := hB
  refine wp_region_held (S := S) hm ?_
  refine wpAnyH_take (i := 0) (v := v0) rfl hsel f0 r0 p0 (Or.inl ⟨by simp [Region.wanted, g0], h0⟩) hS ?_
  refine wpAnyH_take (i := 1) (v := v1) rfl hsel f1 r1 p1 (Or.inl ⟨by simp [Region.wanted, g1], h1⟩) hS ?_
  refine wpAnyH_all r2 (by simp) fun i hi => ?_
  obtain rfl : i = 2 := by simpa using hi
  unfold wpOp
  show if Region.wanted o2 _ = true then _ else _
  rw [if_pos (by simp [Region.wanted, g2])]
  refine .inl (Oper.wp_mono (fun a' w' h => ⟨h.1, ?_⟩) h2)
  refine wpAnyH_all r3 (by simp) fun i hi => ?_
  obtain rfl : i = 3 := by simpa using hi
  unfold wpOp
  show if Region.wanted o3 _ = true then _ else _
  rw [if_pos (by simp [Region.wanted, g3])]
  refine .inl (Oper.wp_mono (fun a'' w'' h => ⟨h.1, ?_⟩) h.2)
  exact wpAnyH_done r4 h.2 _
end Go.Proofs.Ytgceepjfnncilaa
