/- General lemmas of this proof: worlds that only grow, regions that draw their order next to calls that make new memory. -/
import Derived.Test.YtkblkdojmfgneaaRows
import Derived.WalkKit
import Derived.WalkSpells
import Derived.WalkLawsBesides
import Derived.Deep.QuietTactic
import Derived.BigQuiet
import Derived.Deep.RegionHeld3
import Derived.Deep.DeepCutAuto
import Derived.Deep.CutBlock
import Derived.Deep.LoopGhost
import Derived.Lib.Hide
namespace Go.Proofs.Ytkblkdojmfgneaa
open Go.RowKit

theorem ret_int {k : IntKind} {a b : Int} (h : a = b) : Ending.returned (.int k a) = .returned (.int k b) := by rw [h]
theorem ret_val {a b : Value} (h : a = b) : Ending.returned a = .returned b := by rw [h]

/-- What was there when W was is there, unturned. -/
structure Gr (W w : World) : Prop where
  out : Below W.heap.size W w
theorem Gr.start (W : World) : Gr W { W with drawn := W.drawn + 1 } := ⟨(Below.refl _ _).drew⟩
theorem Gr.refl (W : World) : Gr W W := ⟨Below.refl _ _⟩
theorem Gr.next {W w w1 : World} (h : Gr W w) (hb : Below w.heap.size w w1) : Gr W w1 := ⟨h.out.trans (hb.mono h.out.size)⟩
theorem Gr.cell {W w : World} (h : Gr W w) {b o : Nat} {v : Value} (hc : W.cell? ⟨b, o, none⟩ = some v) : w.cell? ⟨b, o, none⟩ = some v :=
  (h.out.cell (p := ⟨b, o, none⟩) (World.block_lt_of_cell? W _ hc)).trans hc
theorem Gr.size {W w : World} (h : Gr W w) : W.heap.size ≤ w.heap.size := h.out.size

/-- A block known whole, nothing of it frozen. -/
structure Blk (w : World) (b : Nat) (cs : Array Value) (t : TypeId) : Prop where
  out : w.heap[b]? = some (.cells cs t (0, 0))
theorem Blk.conv {w : World} {b : Nat} {cs cs' : Array Value} {t : TypeId} (h : Blk w b cs t) (e : cs = cs') : Blk w b cs' t := e ▸ h
theorem Blk.lt {w : World} {b : Nat} {cs : Array Value} {t : TypeId} (h : Blk w b cs t) : b < w.heap.size := (Array.getElem?_eq_some_iff.1 h.out).1
theorem Blk.cell {w : World} {b : Nat} {cs : Array Value} {t : TypeId} (h : Blk w b cs t) (o : Nat) : w.cell? ⟨b, o, none⟩ = cs[o]? := by
  simp [World.cell?, h.out]
theorem Blk.frozen {w : World} {b : Nat} {cs : Array Value} {t : TypeId} (h : Blk w b cs t) (o : Nat) : w.frozen? ⟨b, o, none⟩ = false := by
  simp [World.frozen?, h.out]
theorem Blk.gr {w w1 : World} {b : Nat} {cs : Array Value} {t : TypeId} (h : Blk w b cs t) (g : Gr w w1) : Blk w1 b cs t := ⟨(g.out.block b h.lt).trans h.out⟩
theorem Blk.below {w w1 : World} {b : Nat} {cs : Array Value} {t : TypeId} (h : Blk w b cs t) (g : Below w.heap.size w w1) : Blk w1 b cs t := ⟨(g.block b h.lt).trans h.out⟩
theorem Gr.blk {W w : World} (g : Gr W w) {b : Nat} {cs : Array Value} {t : TypeId} (h : Blk W b cs t) : ∀ o, w.cell? ⟨b, o, none⟩ = cs[o]? := (h.gr g).cell
theorem Blk.new (w : World) (cs : Array Value) (t : TypeId) : Blk (w.alloc (.cells cs t)) w.heap.size cs t := ⟨heap_alloc_new w _⟩
theorem Blk.new' {w : World} {cs : Array Value} {t : TypeId} {b : Nat} (h : b = w.heap.size) : Blk (w.alloc (.cells cs t)) b cs t := h ▸ Blk.new w cs t
theorem Blk.alloc {w : World} {b : Nat} {cs : Array Value} {t : TypeId} {o : Obj} (h : Blk w b cs t) : Blk (w.alloc o) b cs t := ⟨(Below.heap_alloc w o b h.lt).trans h.out⟩
theorem Blk.drew {w : World} {b : Nat} {cs : Array Value} {t : TypeId} (h : Blk w b cs t) : Blk w.drew b cs t := ⟨h.out⟩

theorem Blk.set {w : World} {b : Nat} {cs : Array Value} {t : TypeId} {o : Nat} {v : Value} (h : Blk w b cs t) : Blk (w.setCell ⟨b, o, none⟩ v) b (cs.setIfInBounds o v) t := ⟨by
  simp [World.setCell, Array.getElem?_modify, h.out]⟩
theorem Blk.set_ne {w : World} {b : Nat} {cs : Array Value} {t : TypeId} {a : Addr} {v : Value} (hne : b ≠ a.block) (h : Blk w b cs t) : Blk (w.setCell a v) b cs t := ⟨(Below.heap_setCell w a v b hne).trans h.out⟩
theorem bl_alloc {B : Nat} {a w : World} {o : Obj} (hB : B ≤ w.heap.size) (h : Below B a w) : Below B a (w.alloc o) := h.alloc hB o
theorem bl_set {B : Nat} {a w : World} {p : Addr} {u : Value} (hp : B ≤ p.block) (h : Below B a w) : Below B a (w.setCell p u) := h.setCell hp u
theorem Below.drewN' {n : Nat} {w w1 : World} (_h : w.heap.size ≤ w1.heap.size) (k : Nat) : Below n w1 (w1.drewN k) := by
  induction k with
  | zero => exact Below.refl _ _
  | succ k ih => rw [← World.drew_drewN]; exact ih.drew
theorem bl_drewN {B : Nat} {a w : World} {n : Nat} (h : Below B a w) : Below B a (w.drewN n) := h.trans (Below.drewN' (Nat.le_refl _) n)
theorem drewN_heap (w : World) (n : Nat) : (w.drewN n).heap = w.heap := by
  induction n generalizing w with
  | zero => rfl
  | succ n ih => rw [← World.drew_drewN]; exact ih w.drew
theorem Blk.drewN {w : World} {b : Nat} {cs : Array Value} {t : TypeId} {n : Nat} (h : Blk w b cs t) : Blk (w.drewN n) b cs t := ⟨by rw [drewN_heap]; exact h.out⟩
theorem Below.thn {n : Nat} {w W w1 : World} (h : Below n w W) (hb : Below W.heap.size W w1) (hn : n ≤ W.heap.size := by first | omega | (simp; done) | (simp; omega)) : Below n w w1 := h.trans (hb.mono hn)

theorem wp_region_gr {P : Program} {id : Nat} {Q : Exit → Act → World → Prop} {a : Act} {W : World} {l : List Oper} (hm : P.follows .mixedOrders = true) (hB : Region.lexB .any l.toArray = true)
    (h : wpQuiet P l.toArray (Gr W) (fun a' => ∀ w', Gr W w' → Q .normal a' w') l a) : (Code.region id l.toArray true).wp P Q a W :=
  wp_region_quiet (C := Gr W) hm hB (Gr.start W) (by simpa using h)
theorem quiet_mk {P : Program} {o : Oper} {a : Act} {C : World → Prop} {K : Act → Prop} (h : ∃ v, (∀ w, C w → o.quietAt P a C w v) ∧ K (a.put o.dst v)) : o.quiet P a C K := h

/-- A world of which no more is wanted than what is said of it. -/
theorem wp_abs0 {P : Program} {c : Code} {Q : Exit → Act → World → Prop} {a : Act} {E w : World} {n : Nat} (hb : Below n w E) (h : ∀ W, Below n w W → c.wp P Q a W) : c.wp P Q a E := h _ hb
theorem wp_abs1 {P : Program} {c : Code} {Q : Exit → Act → World → Prop} {a : Act} {E w : World} {n : Nat} (b0 : Nat) (t0 : TypeId) {c0 : Array Value} (hb : Below n w E) (B0 : Blk E b0 c0 t0)
    (h : ∀ W, Below n w W → Blk W b0 c0 t0 → c.wp P Q a W) : c.wp P Q a E := h _ hb B0
theorem wp_abs2 {P : Program} {c : Code} {Q : Exit → Act → World → Prop} {a : Act} {E w : World} {n : Nat} (b0 : Nat) (t0 : TypeId) (b1 : Nat) (t1 : TypeId) {c0 c1 : Array Value} (hb : Below n w E) (B0 : Blk E b0 c0 t0) (B1 : Blk E b1 c1 t1)
    (h : ∀ W, Below n w W → Blk W b0 c0 t0 → Blk W b1 c1 t1 → c.wp P Q a W) : c.wp P Q a E := h _ hb B0 B1
theorem wp_abs3 {P : Program} {c : Code} {Q : Exit → Act → World → Prop} {a : Act} {E w : World} {n : Nat} (b0 : Nat) (t0 : TypeId) (b1 : Nat) (t1 : TypeId) (b2 : Nat) (t2 : TypeId) {c0 c1 c2 : Array Value} (hb : Below n w E) (B0 : Blk E b0 c0 t0) (B1 : Blk E b1 c1 t1) (B2 : Blk E b2 c2 t2)
    (h : ∀ W, Below n w W → Blk W b0 c0 t0 → Blk W b1 c1 t1 → Blk W b2 c2 t2 → c.wp P Q a W) : c.wp P Q a E := h _ hb B0 B1 B2
theorem wp_abs4 {P : Program} {c : Code} {Q : Exit → Act → World → Prop} {a : Act} {E w : World} {n : Nat} (b0 : Nat) (t0 : TypeId) (b1 : Nat) (t1 : TypeId) (b2 : Nat) (t2 : TypeId) (b3 : Nat) (t3 : TypeId) {c0 c1 c2 c3 : Array Value} (hb : Below n w E) (B0 : Blk E b0 c0 t0) (B1 : Blk E b1 c1 t1) (B2 : Blk E b2 c2 t2) (B3 : Blk E b3 c3 t3)
    (h : ∀ W, Below n w W → Blk W b0 c0 t0 → Blk W b1 c1 t1 → Blk W b2 c2 t2 → Blk W b3 c3 t3 → c.wp P Q a W) : c.wp P Q a E := h _ hb B0 B1 B2 B3
theorem wp_abs5 {P : Program} {c : Code} {Q : Exit → Act → World → Prop} {a : Act} {E w : World} {n : Nat} (b0 : Nat) (t0 : TypeId) (b1 : Nat) (t1 : TypeId) (b2 : Nat) (t2 : TypeId) (b3 : Nat) (t3 : TypeId) (b4 : Nat) (t4 : TypeId) {c0 c1 c2 c3 c4 : Array Value} (hb : Below n w E) (B0 : Blk E b0 c0 t0) (B1 : Blk E b1 c1 t1) (B2 : Blk E b2 c2 t2) (B3 : Blk E b3 c3 t3) (B4 : Blk E b4 c4 t4)
    (h : ∀ W, Below n w W → Blk W b0 c0 t0 → Blk W b1 c1 t1 → Blk W b2 c2 t2 → Blk W b3 c3 t3 → Blk W b4 c4 t4 → c.wp P Q a W) : c.wp P Q a E := h _ hb B0 B1 B2 B3 B4
theorem wp_abs6 {P : Program} {c : Code} {Q : Exit → Act → World → Prop} {a : Act} {E w : World} {n : Nat} (b0 : Nat) (t0 : TypeId) (b1 : Nat) (t1 : TypeId) (b2 : Nat) (t2 : TypeId) (b3 : Nat) (t3 : TypeId) (b4 : Nat) (t4 : TypeId) (b5 : Nat) (t5 : TypeId) {c0 c1 c2 c3 c4 c5 : Array Value} (hb : Below n w E) (B0 : Blk E b0 c0 t0) (B1 : Blk E b1 c1 t1) (B2 : Blk E b2 c2 t2) (B3 : Blk E b3 c3 t3) (B4 : Blk E b4 c4 t4) (B5 : Blk E b5 c5 t5)
    (h : ∀ W, Below n w W → Blk W b0 c0 t0 → Blk W b1 c1 t1 → Blk W b2 c2 t2 → Blk W b3 c3 t3 → Blk W b4 c4 t4 → Blk W b5 c5 t5 → c.wp P Q a W) : c.wp P Q a E := h _ hb B0 B1 B2 B3 B4 B5
theorem wp_abs7 {P : Program} {c : Code} {Q : Exit → Act → World → Prop} {a : Act} {E w : World} {n : Nat} (b0 : Nat) (t0 : TypeId) (b1 : Nat) (t1 : TypeId) (b2 : Nat) (t2 : TypeId) (b3 : Nat) (t3 : TypeId) (b4 : Nat) (t4 : TypeId) (b5 : Nat) (t5 : TypeId) (b6 : Nat) (t6 : TypeId) {c0 c1 c2 c3 c4 c5 c6 : Array Value} (hb : Below n w E) (B0 : Blk E b0 c0 t0) (B1 : Blk E b1 c1 t1) (B2 : Blk E b2 c2 t2) (B3 : Blk E b3 c3 t3) (B4 : Blk E b4 c4 t4) (B5 : Blk E b5 c5 t5) (B6 : Blk E b6 c6 t6)
    (h : ∀ W, Below n w W → Blk W b0 c0 t0 → Blk W b1 c1 t1 → Blk W b2 c2 t2 → Blk W b3 c3 t3 → Blk W b4 c4 t4 → Blk W b5 c5 t5 → Blk W b6 c6 t6 → c.wp P Q a W) : c.wp P Q a E := h _ hb B0 B1 B2 B3 B4 B5 B6
theorem wp_abs8 {P : Program} {c : Code} {Q : Exit → Act → World → Prop} {a : Act} {E w : World} {n : Nat} (b0 : Nat) (t0 : TypeId) (b1 : Nat) (t1 : TypeId) (b2 : Nat) (t2 : TypeId) (b3 : Nat) (t3 : TypeId) (b4 : Nat) (t4 : TypeId) (b5 : Nat) (t5 : TypeId) (b6 : Nat) (t6 : TypeId) (b7 : Nat) (t7 : TypeId) {c0 c1 c2 c3 c4 c5 c6 c7 : Array Value} (hb : Below n w E) (B0 : Blk E b0 c0 t0) (B1 : Blk E b1 c1 t1) (B2 : Blk E b2 c2 t2) (B3 : Blk E b3 c3 t3) (B4 : Blk E b4 c4 t4) (B5 : Blk E b5 c5 t5) (B6 : Blk E b6 c6 t6) (B7 : Blk E b7 c7 t7)
    (h : ∀ W, Below n w W → Blk W b0 c0 t0 → Blk W b1 c1 t1 → Blk W b2 c2 t2 → Blk W b3 c3 t3 → Blk W b4 c4 t4 → Blk W b5 c5 t5 → Blk W b6 c6 t6 → Blk W b7 c7 t7 → c.wp P Q a W) : c.wp P Q a E := h _ hb B0 B1 B2 B3 B4 B5 B6 B7
theorem wp_abs9 {P : Program} {c : Code} {Q : Exit → Act → World → Prop} {a : Act} {E w : World} {n : Nat} (b0 : Nat) (t0 : TypeId) (b1 : Nat) (t1 : TypeId) (b2 : Nat) (t2 : TypeId) (b3 : Nat) (t3 : TypeId) (b4 : Nat) (t4 : TypeId) (b5 : Nat) (t5 : TypeId) (b6 : Nat) (t6 : TypeId) (b7 : Nat) (t7 : TypeId) (b8 : Nat) (t8 : TypeId) {c0 c1 c2 c3 c4 c5 c6 c7 c8 : Array Value} (hb : Below n w E) (B0 : Blk E b0 c0 t0) (B1 : Blk E b1 c1 t1) (B2 : Blk E b2 c2 t2) (B3 : Blk E b3 c3 t3) (B4 : Blk E b4 c4 t4) (B5 : Blk E b5 c5 t5) (B6 : Blk E b6 c6 t6) (B7 : Blk E b7 c7 t7) (B8 : Blk E b8 c8 t8)
    (h : ∀ W, Below n w W → Blk W b0 c0 t0 → Blk W b1 c1 t1 → Blk W b2 c2 t2 → Blk W b3 c3 t3 → Blk W b4 c4 t4 → Blk W b5 c5 t5 → Blk W b6 c6 t6 → Blk W b7 c7 t7 → Blk W b8 c8 t8 → c.wp P Q a W) : c.wp P Q a E := h _ hb B0 B1 B2 B3 B4 B5 B6 B7 B8
theorem wp_abs10 {P : Program} {c : Code} {Q : Exit → Act → World → Prop} {a : Act} {E w : World} {n : Nat} (b0 : Nat) (t0 : TypeId) (b1 : Nat) (t1 : TypeId) (b2 : Nat) (t2 : TypeId) (b3 : Nat) (t3 : TypeId) (b4 : Nat) (t4 : TypeId) (b5 : Nat) (t5 : TypeId) (b6 : Nat) (t6 : TypeId) (b7 : Nat) (t7 : TypeId) (b8 : Nat) (t8 : TypeId) (b9 : Nat) (t9 : TypeId) {c0 c1 c2 c3 c4 c5 c6 c7 c8 c9 : Array Value} (hb : Below n w E) (B0 : Blk E b0 c0 t0) (B1 : Blk E b1 c1 t1) (B2 : Blk E b2 c2 t2) (B3 : Blk E b3 c3 t3) (B4 : Blk E b4 c4 t4) (B5 : Blk E b5 c5 t5) (B6 : Blk E b6 c6 t6) (B7 : Blk E b7 c7 t7) (B8 : Blk E b8 c8 t8) (B9 : Blk E b9 c9 t9)
    (h : ∀ W, Below n w W → Blk W b0 c0 t0 → Blk W b1 c1 t1 → Blk W b2 c2 t2 → Blk W b3 c3 t3 → Blk W b4 c4 t4 → Blk W b5 c5 t5 → Blk W b6 c6 t6 → Blk W b7 c7 t7 → Blk W b8 c8 t8 → Blk W b9 c9 t9 → c.wp P Q a W) : c.wp P Q a E := h _ hb B0 B1 B2 B3 B4 B5 B6 B7 B8 B9
theorem wp_abs11 {P : Program} {c : Code} {Q : Exit → Act → World → Prop} {a : Act} {E w : World} {n : Nat} (b0 : Nat) (t0 : TypeId) (b1 : Nat) (t1 : TypeId) (b2 : Nat) (t2 : TypeId) (b3 : Nat) (t3 : TypeId) (b4 : Nat) (t4 : TypeId) (b5 : Nat) (t5 : TypeId) (b6 : Nat) (t6 : TypeId) (b7 : Nat) (t7 : TypeId) (b8 : Nat) (t8 : TypeId) (b9 : Nat) (t9 : TypeId) (b10 : Nat) (t10 : TypeId) {c0 c1 c2 c3 c4 c5 c6 c7 c8 c9 c10 : Array Value} (hb : Below n w E) (B0 : Blk E b0 c0 t0) (B1 : Blk E b1 c1 t1) (B2 : Blk E b2 c2 t2) (B3 : Blk E b3 c3 t3) (B4 : Blk E b4 c4 t4) (B5 : Blk E b5 c5 t5) (B6 : Blk E b6 c6 t6) (B7 : Blk E b7 c7 t7) (B8 : Blk E b8 c8 t8) (B9 : Blk E b9 c9 t9) (B10 : Blk E b10 c10 t10)
    (h : ∀ W, Below n w W → Blk W b0 c0 t0 → Blk W b1 c1 t1 → Blk W b2 c2 t2 → Blk W b3 c3 t3 → Blk W b4 c4 t4 → Blk W b5 c5 t5 → Blk W b6 c6 t6 → Blk W b7 c7 t7 → Blk W b8 c8 t8 → Blk W b9 c9 t9 → Blk W b10 c10 t10 → c.wp P Q a W) : c.wp P Q a E := h _ hb B0 B1 B2 B3 B4 B5 B6 B7 B8 B9 B10

end Go.Proofs.Ytkblkdojmfgneaa
