/- slices.Equal of what goes out: two lists of the same are equal. -/
import Derived.Test.YtkfgbaieghlhkaaBatch5
import Derived.Laws.StructEq
namespace Go.Proofs.Ytkfgbaieghlhkaa
open Go.RowKit

structure OutE where
  h : Int
  p : Int
  s : ByteArray
  deriving Inhabited
def outRow (l : List OutE) : List Value := l.flatMap fun e => [Value.int .u32 e.h, .int .u16 e.p, .string e.s]
theorem outRow_length (l : List OutE) : (outRow l).length = l.length * 3 := by
  induction l with
  | nil => rfl
  | cons a l ih => simp only [outRow, List.flatMap_cons, List.length_append, List.length_cons, List.length_nil] at ih ⊢; omega
theorem outRow_snoc (l : List OutE) (e : OutE) : outRow (l ++ [e]) = outRow l ++ [Value.int .u32 e.h, .int .u16 e.p, .string e.s] := by simp [outRow]
theorem outRow_cells (es : List OutE) (k : Nat) (hk : k < es.length) : (outRow es)[k * 3]? = some (.int .u32 (es.getD k default).h) ∧ (outRow es)[k * 3 + 1]? = some (.int .u16 (es.getD k default).p) ∧ (outRow es)[k * 3 + 2]? = some (.string (es.getD k default).s) := by
  induction es generalizing k with
  | nil => simp at hk
  | cons e es ih =>
    cases k with
    | zero => exact ⟨rfl, rfl, rfl⟩
    | succ k =>
      have := ih k (by simpa using hk)
      have e1 : outRow (e :: es) = [Value.int .u32 e.h, .int .u16 e.p, .string e.s] ++ outRow es := rfl
      rw [e1, show (k + 1) * 3 = k * 3 + 3 by omega]
      rw [List.getElem?_append_right (by simp), List.getElem?_append_right (by simp), List.getElem?_append_right (by simp)]
      exact this
def outsOf (l : List Buf) (es : List Ent) : List OutE := es.map fun e => ⟨e.h, e.p, (l.getD e.i default).text⟩
theorem outCells_eq (l : List Buf) (es : List Ent) : outCells l es = outRow (outsOf l es) := by
  simp [outCells, outRow, outsOf, List.flatMap_map]

set_option maxHeartbeats 1000000 in
theorem outs_equal (b1 b2 : Nat) (v1 v2 : Value) (l : List OutE) (w : World) (h1 : w.ownsRow b1 54 3 v1 l.length (outRow l)) (h2 : w.ownsRow b2 54 3 v2 l.length (outRow l)) (hl : l.length ≤ 64) :
    Calls Try.prog 26 #[v1, v2] w fun e w' => e = .returned (.bool true) ∧ Below w.heap.size w w' := by
  obtain ⟨a1, c1, rfl⟩ := own_slice h1
  obtain ⟨a2, c2, rfl⟩ := own_slice h2
  go_enter Try.func26, Try.ntmps26
  go_wp2_with fail
  go_loopg [13] l.length (fun g t13 wr => ∃ k : Nat, t13 = .int .i64 k ∧ k + g = l.length ∧ Below w.heap.size w wr)
  case atStart => exact ⟨0, rfl, by omega, Below.refl _ _⟩
  case round =>
    obtain ⟨k, rfl, hk, hb⟩ := hrel
    have HK := Lib.hid hk
    have hws := hb.size
    cases gk with
    | zero =>
      have hk' : ¬ (k : Int) < l.length := by omega
      clear hk
      go_wp2
      go_ret
      exact ⟨rfl, hb⟩
    | succ g =>
      have hk' : (k : Int) < l.length := by omega
      have hkl : k < l.length := by omega
      clear hk
      have O1 := own_below2 h1 hb
      have O2 := own_below2 h2 hb
      obtain ⟨g1, hg1, hcl1⟩ : ∃ g0, a1 = some ⟨g0, 0, none⟩ ∧ ∀ j, j < l.length * 3 → wr.cell? ⟨g0, j, none⟩ = (outRow l)[j]? := by
        rcases O1.2 with ⟨h1, h2⟩ | ⟨g0, cap, cur, h1, _⟩
        · omega
        · simp only [Value.slice.injEq] at h1
          obtain ⟨rfl, _, rfl⟩ := h1
          exact ⟨g0, rfl, fun j hj => O1.cellAt j hj⟩
      obtain ⟨g2, hg2, hcl2⟩ : ∃ g0, a2 = some ⟨g0, 0, none⟩ ∧ ∀ j, j < l.length * 3 → wr.cell? ⟨g0, j, none⟩ = (outRow l)[j]? := by
        rcases O2.2 with ⟨h1, h2⟩ | ⟨g0, cap, cur, h1, _⟩
        · omega
        · simp only [Value.slice.injEq] at h1
          obtain ⟨rfl, _, rfl⟩ := h1
          exact ⟨g0, rfl, fun j hj => O2.cellAt j hj⟩
      subst hg1 hg2
      obtain ⟨e0, e1, e2⟩ := outRow_cells l k hkl
      have hx0 := (hcl1 (k * 3) (by omega)).trans e0
      have hx1 := (hcl1 (k * 3 + 1) (by omega)).trans e1
      have hx2 := (hcl1 (k * 3 + 2) (by omega)).trans e2
      have hy0 := (hcl2 (k * 3) (by omega)).trans e0
      have hy1 := (hcl2 (k * 3 + 1) (by omega)).trans e1
      have hy2 := (hcl2 (k * 3 + 2) (by omega)).trans e2
      clear hcl1 hcl2 e0 e1 e2 O1 O2
      generalize l.getD k default = x at hx0 hx1 hx2 hy0 hy1 hy2
      obtain ⟨xh, xp, xs⟩ := x
      simp only at hx0 hx1 hx2 hy0 hy1 hy2
      have HB := Lib.hid hb
      clear hb
      go_wp2_with fail
      go_quiet (fail)
      go_wp2_with fail
      go_roundg g
      case rel => exact ⟨k + 1, by simp, by have := HK.out; omega, Below.thn HB.out (Below.drewN' (Nat.le_refl _) _) hws⟩
      case measure => omega
end Go.Proofs.Ytkfgbaieghlhkaa
