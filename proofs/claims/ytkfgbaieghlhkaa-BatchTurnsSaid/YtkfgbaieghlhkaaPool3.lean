/- The one that is held. -/
import Derived.Test.YtkfgbaieghlhkaaPool2
namespace Go.Proofs.Ytkfgbaieghlhkaa
open Go.RowKit

set_option maxHeartbeats 400000 in
theorem one_ok (pb B n ever k : Nat) (l : List Buf) (w : World) (h : PoolAt w pb B n l ever) (hk : k < n) (hh : (l.getD k default).held = true) :
    Calls Try.prog 34 #[.pointer (some ⟨pb, 0, none⟩), .int .i64 k] w fun e w' => e = .returned (.tuple #[.pointer (some ⟨B, k * 514, none⟩), .int .i64 0]) ∧ Below w.heap.size w w' := by
  have hn := h.most
  have hc := h.held k hk
  rw [hh] at hc
  have hb := h.hd
  have hbc := hb.cell; have hbf := hb.frozen
  have h0 : ¬ (k : Int) < 0 := by omega
  have h1 : ¬ (k : Int) ≥ n := by omega
  have h2 : (k : Int) < n := by omega
  clear hb
  go_enter Try.func34, Try.ntmps34
  go_wp2
  refine bodyPost_ret (v := .tuple #[.pointer (some ⟨B, k * 514, none⟩), .int .i64 0]) ?_ rfl ⟨rfl, ?_⟩
  · simp [results, Try.results34, go_sem]
  · repeat (first | (with_reducible assumption) | (with_reducible exact Below.refl _ _) | with_reducible apply bl_drewN | with_reducible apply Below.drew | (with_reducible apply bl_alloc; focus (first | (simp; done) | (simp; omega) | omega)) | (with_reducible apply bl_set; focus (first | (simp; done) | (simp; omega) | omega)))

set_option maxHeartbeats 400000 in
theorem one_bad (pb B n ever : Nat) (i : Int) (l : List Buf) (w : World) (h : PoolAt w pb B n l ever) (hi : i < 0 ∨ n ≤ i ∨ ∃ k : Nat, i = k ∧ k < n ∧ (l.getD k default).held = false) :
    Calls Try.prog 34 #[.pointer (some ⟨pb, 0, none⟩), .int .i64 i] w fun e w' => e = .returned (.tuple #[.pointer none, .int .i64 14]) ∧ Below w.heap.size w w' := by
  have hn := h.most
  have hb := h.hd
  have hbc := hb.cell; have hbf := hb.frozen
  clear hb
  rcases hi with h0 | h1 | ⟨k, rfl, hk, hh⟩
  · go_enter Try.func34, Try.ntmps34
    go_wp2
    refine bodyPost_ret (v := .tuple #[.pointer none, .int .i64 14]) ?_ rfl ⟨rfl, ?_⟩
    · simp [results, Try.results34, go_sem]
    · repeat (first | (with_reducible assumption) | (with_reducible exact Below.refl _ _) | with_reducible apply bl_drewN | with_reducible apply Below.drew | (with_reducible apply bl_alloc; focus (first | (simp; done) | (simp; omega) | omega)) | (with_reducible apply bl_set; focus (first | (simp; done) | (simp; omega) | omega)))
  · have h0 : ¬ i < 0 := by omega
    have h2 : i ≥ n := by omega
    clear h1
    go_enter Try.func34, Try.ntmps34
    go_wp2
    refine bodyPost_ret (v := .tuple #[.pointer none, .int .i64 14]) ?_ rfl ⟨rfl, ?_⟩
    · simp [results, Try.results34, go_sem]
    · repeat (first | (with_reducible assumption) | (with_reducible exact Below.refl _ _) | with_reducible apply bl_drewN | with_reducible apply Below.drew | (with_reducible apply bl_alloc; focus (first | (simp; done) | (simp; omega) | omega)) | (with_reducible apply bl_set; focus (first | (simp; done) | (simp; omega) | omega)))
  · have hc := h.held k hk
    rw [hh] at hc
    have h0 : ¬ (k : Int) < 0 := by omega
    have h1 : ¬ (k : Int) ≥ n := by omega
    have h2 : (k : Int) < n := by omega
    go_enter Try.func34, Try.ntmps34
    go_wp2
    refine bodyPost_ret (v := .tuple #[.pointer none, .int .i64 14]) ?_ rfl ⟨rfl, ?_⟩
    · simp [results, Try.results34, go_sem]
    · repeat (first | (with_reducible assumption) | (with_reducible exact Below.refl _ _) | with_reducible apply bl_drewN | with_reducible apply Below.drew | (with_reducible apply bl_alloc; focus (first | (simp; done) | (simp; omega) | omega)) | (with_reducible apply bl_set; focus (first | (simp; done) | (simp; omega) | omega)))
end Go.Proofs.Ytkfgbaieghlhkaa
