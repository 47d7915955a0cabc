/- Add where it adds nothing; Flush. -/
import Derived.Test.YtkfgbaieghlhkaaBatch2
import Derived.Test.YtkfgbaieghlhkaaPoolOwnersW
namespace Go.Proofs.Ytkfgbaieghlhkaa
open Go.RowKit

set_option maxHeartbeats 1000000 in
theorem add_full (bb pb most base : Nat) (lv : Value) (es : List Ent) (h p : Int) (s : Value) (w : World) (A : BatchAt w bb pb most base lv es) (hf : most ≤ es.length) :
    Calls Try.prog 22 #[.pointer (some ⟨bb, 0, none⟩), .agg #[.int .u32 h, .int .u16 p], s] w fun e w' => e = .returned (.int .i64 12) ∧ Below w.heap.size w w' := by
  go_enter Try.func22, Try.ntmps22
  go_wp2_with fail
  refine (full_any bb pb most base lv es _ (A.below (by (repeat (first | (with_reducible assumption) | (with_reducible exact Below.refl _ _) | with_reducible apply bl_drewN | with_reducible apply Below.drew | (with_reducible apply bl_alloc; focus (first | (simp; done) | (simp; omega) | omega)) | (with_reducible apply bl_set; focus (first | (simp; done) | (simp; omega) | omega))))))).mono ?_
  rintro e w1 ⟨rfl, hb⟩
  have hfd : decide (most ≤ es.length) = true := by simp; omega
  rw [hfd]
  have hbw := Below.thn (n := w.heap.size) (w := w) (by (repeat (first | (with_reducible assumption) | (with_reducible exact Below.refl _ _) | with_reducible apply bl_drewN | with_reducible apply Below.drew | (with_reducible apply bl_alloc; focus (first | (simp; done) | (simp; omega) | omega)) | (with_reducible apply bl_set; focus (first | (simp; done) | (simp; omega) | omega))))) hb
  clear hb hfd
  go_wp2
  go_ret
  exact ⟨rfl, hbw⟩
set_option maxHeartbeats 1000000 in
theorem add_long (bb pb most base : Nat) (lv : Value) (es : List Ent) (h p : Int) (s : ByteArray) (w : World) (A : BatchAt w bb pb most base lv es) (hf : es.length < most) (hs : 512 < s.size) :
    Calls Try.prog 22 #[.pointer (some ⟨bb, 0, none⟩), .agg #[.int .u32 h, .int .u16 p], .string s] w fun e w' => e = .returned (.int .i64 5) ∧ Below w.heap.size w w' := by
  go_enter Try.func22, Try.ntmps22
  go_wp2_with fail
  refine (full_any bb pb most base lv es _ (A.below (by (repeat (first | (with_reducible assumption) | (with_reducible exact Below.refl _ _) | with_reducible apply bl_drewN | with_reducible apply Below.drew | (with_reducible apply bl_alloc; focus (first | (simp; done) | (simp; omega) | omega)) | (with_reducible apply bl_set; focus (first | (simp; done) | (simp; omega) | omega))))))).mono ?_
  rintro e w1 ⟨rfl, hb⟩
  have hfd : decide (most ≤ es.length) = false := by simp; omega
  rw [hfd]
  have hbw := Below.thn (n := w.heap.size) (w := w) (by (repeat (first | (with_reducible assumption) | (with_reducible exact Below.refl _ _) | with_reducible apply bl_drewN | with_reducible apply Below.drew | (with_reducible apply bl_alloc; focus (first | (simp; done) | (simp; omega) | omega)) | (with_reducible apply bl_set; focus (first | (simp; done) | (simp; omega) | omega))))) hb
  have A1 := A.below hbw
  have hc := A1.hd.cell; have hcf := A1.hd.frozen
  have hws := hbw.size
  clear hb hfd
  go_wp2_with fail
  refine (get_long pb s _ hs).mono ?_
  rintro e w2 ⟨rfl, hb⟩
  go_wp2
  go_ret
  exact ⟨rfl, Below.thn hbw hb hws⟩
set_option maxHeartbeats 1000000 in
theorem add_none (pb B bb most base n ever : Nat) (lv : Value) (es : List Ent) (l : List Buf) (h p : Int) (s : ByteArray) (w : World) (P : PoolAt w pb B n l ever) (A : BatchAt w bb pb most base lv es) (hf : es.length < most) (hs : s.size ≤ 512)
    (hall : ∀ j, j < n → (l.getD j default).held = true) :
    Calls Try.prog 22 #[.pointer (some ⟨bb, 0, none⟩), .agg #[.int .u32 h, .int .u16 p], .string s] w fun e w' => e = .returned (.int .i64 13) ∧ Below w.heap.size w w' := by
  go_enter Try.func22, Try.ntmps22
  go_wp2_with fail
  refine (full_any bb pb most base lv es _ (A.below (by (repeat (first | (with_reducible assumption) | (with_reducible exact Below.refl _ _) | with_reducible apply bl_drewN | with_reducible apply Below.drew | (with_reducible apply bl_alloc; focus (first | (simp; done) | (simp; omega) | omega)) | (with_reducible apply bl_set; focus (first | (simp; done) | (simp; omega) | omega))))))).mono ?_
  rintro e w1 ⟨rfl, hb⟩
  have hfd : decide (most ≤ es.length) = false := by simp; omega
  rw [hfd]
  have hbw := Below.thn (n := w.heap.size) (w := w) (by (repeat (first | (with_reducible assumption) | (with_reducible exact Below.refl _ _) | with_reducible apply bl_drewN | with_reducible apply Below.drew | (with_reducible apply bl_alloc; focus (first | (simp; done) | (simp; omega) | omega)) | (with_reducible apply bl_set; focus (first | (simp; done) | (simp; omega) | omega))))) hb
  have A1 := A.below hbw
  have hc := A1.hd.cell; have hcf := A1.hd.frozen
  have hws := hbw.size
  have P1 := P.below hbw
  clear hb hfd
  go_wp2_with fail
  refine (get_none pb B n ever l s _ P1 hs hall).mono ?_
  rintro e w2 ⟨rfl, hb⟩
  go_wp2
  go_ret
  exact ⟨rfl, Below.thn hbw hb hws⟩
end Go.Proofs.Ytkfgbaieghlhkaa
