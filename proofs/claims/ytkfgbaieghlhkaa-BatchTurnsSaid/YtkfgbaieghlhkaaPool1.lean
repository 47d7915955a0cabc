/- Package pool: what memory holds of a pool; the closure of Get. -/
import Derived.Test.YtkfgbaieghlhkaaBase
import Derived.Test.YtkfgbaieghlhkaaTail
import Derived.Test.YtkfgbaieghlhkaaStr
import Derived.Deep.MidRow
import Derived.Deep.OwnRows
import Derived.Lib.LazyBuf
namespace Go.Proofs.Ytkfgbaieghlhkaa
open Go.RowKit

structure Buf where
  held : Bool
  text : ByteArray
  deriving Inhabited

/-- Of a text, then of noughts, the byte. -/
def byteAt (s : ByteArray) (j : Nat) : Int := ((s.data.toList.getD j 0).toNat : Int)
def cellOf (x : Buf) (j : Nat) : Value := if j < 512 then .int .u8 (byteAt x.text j) else if j = 512 then .int .i64 x.text.size else .bool x.held
def poolF (l : List Buf) (o : Nat) : Value := cellOf (l.getD (o / 514) default) (o % 514)

theorem poolF_at (l : List Buf) (i j : Nat) (hj : j < 514) : poolF l (i * 514 + j) = cellOf (l.getD i default) j := by
  unfold poolF
  rw [show (i * 514 + j) / 514 = i by omega, show (i * 514 + j) % 514 = j by omega]
theorem getD_set_self {α : Type} [Inhabited α] (l : List α) (i : Nat) (x : α) (h : i < l.length) : (l.set i x).getD i default = x := by simp [List.getD, h]
theorem getD_set_other {α : Type} [Inhabited α] (l : List α) (i k : Nat) (x : α) (h : i ≠ k) : (l.set i x).getD k default = l.getD k default := by simp [List.getD, List.getElem?_set_ne h]
theorem poolF_set (l : List Buf) (i : Nat) (x : Buf) (hi : i < l.length) (o : Nat) : poolF (l.set i x) o = if i * 514 ≤ o ∧ o < i * 514 + 514 then cellOf x (o - i * 514) else poolF l o := by
  unfold poolF
  by_cases h : i * 514 ≤ o ∧ o < i * 514 + 514
  · rw [if_pos h, show o / 514 = i by omega, show o % 514 = o - i * 514 by omega, getD_set_self _ _ _ hi]
  · rw [if_neg h, getD_set_other _ _ _ _ (by omega)]

/-- A pool at block pb, its buffers in block B. -/
structure PoolAt (w : World) (pb B n : Nat) (l : List Buf) (ever : Nat) : Prop where
  hd : Blk w pb #[.slice (some ⟨B, 0, none⟩) n n, .int .u64 ever] 77
  row : w.rowIs B 81 (n * 514) (poolF l)
  len : l.length = n
  fit : ∀ i, i < n → (l.getD i default).text.size ≤ 512 ∧ ((l.getD i default).held = false → (l.getD i default).text = ⟨#[]⟩)
  ne : pb ≠ B
  most : 1 ≤ n ∧ n ≤ 256

/-- Nothing but two blocks has turned. -/
structure Turn (pb B : Nat) (w w' : World) : Prop where
  out : Below 0 w w'
  block : ∀ k, k < w.heap.size → k ≠ pb → k ≠ B → w'.heap[k]? = w.heap[k]?

theorem Turn.refl (pb B : Nat) (w : World) : Turn pb B w w := ⟨Below.refl _ _, fun _ _ _ _ => rfl⟩
theorem Turn.trans {pb B : Nat} {a b c : World} (h : Turn pb B a b) (k : Turn pb B b c) : Turn pb B a c :=
  ⟨h.out.trans k.out, fun i hi h1 h2 => (k.block i (Nat.lt_of_lt_of_le hi h.out.size) h1 h2).trans (h.block i hi h1 h2)⟩
theorem Turn.below {pb B n : Nat} {w w' : World} (h : Turn pb B w w') (hn : n ≤ w.heap.size) (h1 : n ≤ pb) (h2 : n ≤ B) : Below n w w' :=
  ⟨h.out.os, h.out.tape, h.out.output, h.out.size, fun k hk => h.block k (by omega) (by omega) (by omega)⟩
theorem Turn.of {pb B : Nat} {w w' : World} (h : Below w.heap.size w w') : Turn pb B w w' := ⟨h.mono (Nat.zero_le _), fun k hk _ _ => h.block k hk⟩
theorem Turn.blk {pb B b : Nat} {w w' : World} {cs : Array Value} {t : TypeId} (h : Turn pb B w w') (k : Blk w b cs t) (h1 : b ≠ pb) (h2 : b ≠ B) : Blk w' b cs t :=
  ⟨(h.block b k.lt h1 h2).trans k.out⟩
theorem Turn.drew {pb B : Nat} {a w : World} (h : Turn pb B a w) : Turn pb B a w.drew := h.trans ⟨(Below.refl _ _).drew, fun _ _ _ _ => rfl⟩
theorem Turn.set {pb B : Nat} {a w : World} (h : Turn pb B a w) {p : Addr} (hp : p.block = pb ∨ p.block = B) (u : Value) : Turn pb B a (w.setCell p u) :=
  h.trans ⟨(Below.refl _ _).setCell (Nat.zero_le _) u, fun k _ h1 h2 => Below.heap_setCell w p u k (by omega)⟩
theorem Turn.sets {pb B : Nat} {a : World} : ∀ (vs : List Value) (o : Nat) (w : World), Turn pb B a w → Turn pb B a (w.setCells B o vs)
  | [], _, _, h => h
  | v :: r, o, w, h => Turn.sets r (o + 1) _ (h.set (p := ⟨B, o, none⟩) (Or.inr rfl) v)

theorem Blk.sets {b B : Nat} {cs : Array Value} {t : TypeId} (hne : b ≠ B) : ∀ (vs : List Value) (o : Nat) (w : World), Blk w b cs t → Blk (w.setCells B o vs) b cs t
  | [], _, _, h => h
  | v :: r, o, w, h => Blk.sets hne r (o + 1) _ (h.set_ne (by exact hne))

section
variable {w w' : World} {pb B n ever : Nat} {l : List Buf}
theorem PoolAt.lt (h : PoolAt w pb B n l ever) : B < w.heap.size := h.row.lt
theorem PoolAt.below (h : PoolAt w pb B n l ever) (g : Below w.heap.size w w') : PoolAt w' pb B n l ever :=
  ⟨h.hd.below g, h.row.of_block (g.block B h.lt), h.len, h.fit, h.ne, h.most⟩
theorem PoolAt.frozen (h : PoolAt w pb B n l ever) (o : Nat) : w.frozen? ⟨B, o, none⟩ = false := h.row.frozen o
theorem PoolAt.cell (h : PoolAt w pb B n l ever) (i j : Nat) (hi : i < n) (hj : j < 514) : w.cell? ⟨B, i * 514 + j, none⟩ = some (cellOf (l.getD i default) j) := by
  rw [h.row.cell (by omega), poolF_at _ _ _ hj]
theorem PoolAt.held (h : PoolAt w pb B n l ever) (i : Nat) (hi : i < n) : w.cell? ⟨B, i * 514 + 513, none⟩ = some (.bool (l.getD i default).held) := by
  rw [h.cell i 513 hi (by omega)]; rfl
theorem PoolAt.size (h : PoolAt w pb B n l ever) (i : Nat) (hi : i < n) : w.cell? ⟨B, i * 514 + 512, none⟩ = some (.int .i64 (l.getD i default).text.size) := by
  rw [h.cell i 512 hi (by omega)]; rfl
theorem PoolAt.cells (h : PoolAt w pb B n l ever) (i : Nat) (hi : i < n) : w.rangeAt B (i * 514) ((List.range 514).map (cellOf (l.getD i default))) := by
  intro j v hv
  have hj : j < 514 := by simpa using (List.getElem?_eq_some_iff.1 hv).1
  rw [h.cell i j hi hj]
  simp [hj] at hv
  exact congrArg some hv
end
theorem bufRow_length (x : Buf) : ((List.range 514).map (cellOf x)).length = 514 := by simp
theorem bufRow_held (x : Buf) : ((List.range 514).map (cellOf x)).toArray[513]? = some (.bool x.held) := by simp [cellOf]

set_option maxHeartbeats 400000 in
theorem free_any (cs : Array Value) (b : Bool) (w : World) (h : cs[513]? = some (.bool b)) :
    Calls Try.prog 33 #[.agg cs] w fun e w' => e = .returned (.bool (!b)) ∧ Below w.heap.size w w' := by
  go_enter Try.func33, Try.ntmps33
  go_wp2
  go_ret
  exact ⟨rfl, by (repeat (first | (with_reducible assumption) | (with_reducible exact Below.refl _ _) | with_reducible apply bl_drewN | with_reducible apply Below.drew | (with_reducible apply bl_alloc; focus (first | (simp; done) | (simp; omega) | omega)) | (with_reducible apply bl_set; focus (first | (simp; done) | (simp; omega) | omega))))⟩
end Go.Proofs.Ytkfgbaieghlhkaa
