/- Package batch: what memory holds of a batch; New, Len, Full. -/
import Derived.Test.YtkfgbaieghlhkaaPoolNil
import Derived.OwnWalk
import Derived.Maps.AppendAt
namespace Go.Proofs.Ytkfgbaieghlhkaa
open Go.RowKit

/-- Who it goes to, and where it lies. -/
structure Ent where
  h : Int
  p : Int
  i : Nat
  deriving Inhabited
def entCells (l : List Ent) : List Value := l.flatMap fun e => [Value.int .u32 e.h, .int .u16 e.p, .int .i64 e.i]
theorem entCells_length (l : List Ent) : (entCells l).length = l.length * 3 := by
  induction l with
  | nil => rfl
  | cons a l ih => simp only [entCells, List.flatMap_cons, List.length_append, List.length_cons, List.length_nil] at ih ⊢; omega

/-- A batch at block bb, of the pool at pb; its list lies among the blocks from base on. -/
structure BatchAt (w : World) (bb pb most base : Nat) (lv : Value) (l : List Ent) : Prop where
  hd : Blk w bb #[.pointer (some ⟨pb, 0, none⟩), .int .i64 most, lv] 88
  own : w.ownsRow base 90 3 lv l.length (entCells l)

def BNewPost (pb most : Nat) (w : World) (e : Ending) (w' : World) : Prop :=
  ∃ bb, e = .returned (.tuple #[.pointer (some ⟨bb, 0, none⟩), .int .i64 0]) ∧ Blk w' bb #[.pointer (some ⟨pb, 0, none⟩), .int .i64 most, .slice none 0 0] 88 ∧ w.heap.size ≤ bb ∧ Below w.heap.size w w'
set_option maxHeartbeats 400000 in
theorem bnew_any (pb most : Nat) (w : World) (h1 : 1 ≤ most) (h2 : most ≤ 64) :
    Calls Try.prog 21 #[.pointer (some ⟨pb, 0, none⟩), .int .i64 most] w fun e w' => BNewPost pb most w e w' := by
  have g1 : ¬ (most : Int) < 1 := by omega
  have g2 : ¬ (64 : Int) < most := by omega
  go_enter Try.func21, Try.ntmps21
  go_wp2
  refine bodyPost_ret (v := .tuple #[.pointer (some ⟨w.heap.size, 0, none⟩), .int .i64 0]) ?_ rfl ⟨w.heap.size, rfl, ?_, Nat.le_refl _, ?_⟩
  · simp [results, Try.results21, go_sem]
  · (apply Blk.conv; focus (repeat (first | (with_reducible assumption) | (with_reducible apply Blk.new'; (first | (with_reducible rfl) | (simp; done))) | with_reducible apply Blk.alloc | with_reducible apply Blk.set | ((with_reducible apply Blk.set_ne); focus (first | (simp; done) | (simp; omega))) | with_reducible apply Blk.drewN | with_reducible apply Blk.drew)))
    (first | rfl | (simp; done) | (simp; omega))
  · repeat (first | (with_reducible assumption) | (with_reducible exact Below.refl _ _) | with_reducible apply bl_drewN | with_reducible apply Below.drew | (with_reducible apply bl_alloc; focus (first | (simp; done) | (simp; omega) | omega)) | (with_reducible apply bl_set; focus (first | (simp; done) | (simp; omega) | omega)))
set_option maxHeartbeats 400000 in
theorem bnew_bad (pb : Nat) (most : Int) (w : World) (h : most < 1 ∨ 64 < most) :
    Calls Try.prog 21 #[.pointer (some ⟨pb, 0, none⟩), .int .i64 most] w fun e w' => e = .returned (.tuple #[.pointer none, .int .i64 7]) ∧ Below w.heap.size w w' := by
  rcases h with h | h
  · go_enter Try.func21, Try.ntmps21
    go_wp2
    refine bodyPost_ret (v := .tuple #[.pointer none, .int .i64 7]) ?_ rfl ⟨rfl, ?_⟩
    · simp [results, Try.results21, go_sem]
    · repeat (first | (with_reducible assumption) | (with_reducible exact Below.refl _ _) | with_reducible apply bl_drewN | with_reducible apply Below.drew | (with_reducible apply bl_alloc; focus (first | (simp; done) | (simp; omega) | omega)) | (with_reducible apply bl_set; focus (first | (simp; done) | (simp; omega) | omega)))
  · have g1 : ¬ most < 1 := by omega
    go_enter Try.func21, Try.ntmps21
    go_wp2
    refine bodyPost_ret (v := .tuple #[.pointer none, .int .i64 7]) ?_ rfl ⟨rfl, ?_⟩
    · simp [results, Try.results21, go_sem]
    · repeat (first | (with_reducible assumption) | (with_reducible exact Below.refl _ _) | with_reducible apply bl_drewN | with_reducible apply Below.drew | (with_reducible apply bl_alloc; focus (first | (simp; done) | (simp; omega) | omega)) | (with_reducible apply bl_set; focus (first | (simp; done) | (simp; omega) | omega)))
theorem bnew_nil (most : Int) (w : World) :
    Calls Try.prog 21 #[.pointer none, .int .i64 most] w fun e w' => e = .returned (.tuple #[.pointer none, .int .i64 1]) ∧ w' = w := by
  go_enter Try.func21, Try.ntmps21
  go_wp2
  refine bodyPost_ret (v := .tuple #[.pointer none, .int .i64 1]) ?_ rfl ⟨rfl, rfl⟩
  simp [results, Try.results21, go_sem]
theorem len_nil (w : World) : Calls Try.prog 24 #[.pointer none] w fun e w' => e = .returned (.int .i64 0) ∧ w' = w := by
  go_enter Try.func24, Try.ntmps24
  go_wp2
  go_ret
  exact ⟨rfl, rfl⟩
theorem flush_nil (w : World) : Calls Try.prog 23 #[.pointer none] w fun e w' => e = .returned (.slice none 0 0) ∧ w' = w := by
  go_enter Try.func23, Try.ntmps23
  go_wp2
  go_ret
  exact ⟨rfl, rfl⟩
theorem full_nil (w : World) : Calls Try.prog 25 #[.pointer none] w fun e w' => e = .returned (.bool false) ∧ Below w.heap.size w w' := by
  go_enter Try.func25, Try.ntmps25
  go_wp2_with fail
  go_quiet (fail)
  go_wp2
  go_ret
  exact ⟨rfl, Below.drewN' (Nat.le_refl _) _⟩
theorem add_nil (a s : Value) (w : World) (c : Array Value) (ha : a = .agg c) (hc : c.size = 2) : Calls Try.prog 22 #[.pointer none, a, s] w fun e w' => e = .returned (.int .i64 1) ∧ Below w.heap.size w w' := by
  subst ha
  go_enter Try.func22, Try.ntmps22
  go_wp2
  go_ret
  exact ⟨rfl, by (repeat (first | (with_reducible assumption) | (with_reducible exact Below.refl _ _) | with_reducible apply bl_drewN | with_reducible apply Below.drew | (with_reducible apply bl_alloc; focus (first | (simp; done) | (simp; omega) | omega)) | (with_reducible apply bl_set; focus (first | (simp; done) | (simp; omega) | omega))))⟩

set_option maxHeartbeats 400000 in
theorem len_any (bb pb most base : Nat) (lv : Value) (l : List Ent) (w : World) (h : BatchAt w bb pb most base lv l) :
    Calls Try.prog 24 #[.pointer (some ⟨bb, 0, none⟩)] w fun e w' => e = .returned (.int .i64 l.length) ∧ Below w.heap.size w w' := by
  obtain ⟨a, c, rfl⟩ := own_slice h.own
  have hbc := h.hd.cell; have hbf := h.hd.frozen
  go_enter Try.func24, Try.ntmps24
  go_wp2
  go_ret
  exact ⟨rfl, Below.refl _ _⟩
set_option maxHeartbeats 400000 in
theorem full_any (bb pb most base : Nat) (lv : Value) (l : List Ent) (w : World) (h : BatchAt w bb pb most base lv l) :
    Calls Try.prog 25 #[.pointer (some ⟨bb, 0, none⟩)] w fun e w' => e = .returned (.bool (decide (most ≤ l.length))) ∧ Below w.heap.size w w' := by
  obtain ⟨a, c, rfl⟩ := own_slice h.own
  have hbc := h.hd.cell; have hbf := h.hd.frozen
  by_cases hm : most ≤ l.length
  · have hm1 : (most : Int) ≤ (l.length : Int) := by omega
    go_enter Try.func25, Try.ntmps25
    go_wp2_with fail
    go_quiet (fail)
    go_wp2
    go_ret
    exact ⟨by simp [hm], Below.drewN' (Nat.le_refl _) _⟩
  · have hm1 : ¬ (most : Int) ≤ (l.length : Int) := by omega
    go_enter Try.func25, Try.ntmps25
    go_wp2_with fail
    go_quiet (fail)
    go_wp2
    go_ret
    exact ⟨by simp [hm], Below.drewN' (Nat.le_refl _) _⟩
end Go.Proofs.Ytkfgbaieghlhkaa
