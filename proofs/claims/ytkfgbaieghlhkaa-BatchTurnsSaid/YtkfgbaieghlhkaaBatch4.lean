/- Flush. -/
import Derived.Test.YtkfgbaieghlhkaaBatch3
namespace Go.Proofs.Ytkfgbaieghlhkaa
open Go.RowKit

def freeAll (l : List Buf) (es : List Ent) : List Buf := es.foldl (fun l e => l.set e.i ⟨false, ⟨#[]⟩⟩) l
theorem freeAll_snoc (l : List Buf) (es : List Ent) (e : Ent) : freeAll l (es ++ [e]) = (freeAll l es).set e.i ⟨false, ⟨#[]⟩⟩ := by simp [freeAll]
theorem freeAll_length (l : List Buf) (es : List Ent) : (freeAll l es).length = l.length := by
  induction es generalizing l with
  | nil => rfl
  | cons e es ih => show (freeAll (l.set e.i _) es).length = _; rw [ih, List.length_set]
theorem freeAll_other (l : List Buf) (es : List Ent) (k : Nat) (h : ∀ e ∈ es, e.i ≠ k) : (freeAll l es).getD k default = l.getD k default := by
  induction es generalizing l with
  | nil => rfl
  | cons e es ih =>
    show (freeAll (l.set e.i _) es).getD k default = _
    rw [ih _ (fun e' he => h e' (List.mem_cons_of_mem _ he)), getD_set_other _ _ _ _ (h e (List.mem_cons_self ..))]
def outCells (l : List Buf) (es : List Ent) : List Value := es.flatMap fun e => [Value.int .u32 e.h, .int .u16 e.p, .string (l.getD e.i default).text]
theorem outCells_snoc (l : List Buf) (es : List Ent) (e : Ent) : outCells l (es ++ [e]) = outCells l es ++ [Value.int .u32 e.h, .int .u16 e.p, .string (l.getD e.i default).text] := by simp [outCells]
theorem ent_cells (es : List Ent) (k : Nat) (hk : k < es.length) : (entCells es)[k * 3]? = some (.int .u32 (es.getD k default).h) ∧ (entCells es)[k * 3 + 1]? = some (.int .u16 (es.getD k default).p) ∧ (entCells es)[k * 3 + 2]? = some (.int .i64 (es.getD k default).i) := by
  induction es generalizing k with
  | nil => simp at hk
  | cons e es ih =>
    cases k with
    | zero => exact ⟨rfl, rfl, rfl⟩
    | succ k =>
      have := ih k (by simpa using hk)
      have e1 : entCells (e :: es) = [Value.int .u32 e.h, .int .u16 e.p, .int .i64 e.i] ++ entCells es := rfl
      rw [e1, show (k + 1) * 3 = k * 3 + 3 by omega]
      rw [List.getElem?_append_right (by simp), List.getElem?_append_right (by simp), List.getElem?_append_right (by simp)]
      exact this
theorem info54 : (Try.prog.info? 54).map (fun i => (i.zero, i.size, i.bytes)) = some (some (.agg #[.int .u32 0, .int .u16 0, .string ⟨#[]⟩]), 3, 24) := by kernel_rfl
end Go.Proofs.Ytkfgbaieghlhkaa
