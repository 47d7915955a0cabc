/- The document's screens: down. -/
import Derived.Test.YtgdmeaoghhkknaaRScr2
namespace Go.Proofs.Ytgdmeaoghhkknaa
open Go.RowKit

/-- A screen, wherever in its row the cursor is. -/
structure Scr.Dk (s : Scr) : Prop where
  w1 : 1 ≤ s.w
  w2 : s.w ≤ 80
  h1 : 1 ≤ s.h
  h2 : s.h ≤ 24
  y : s.y < s.h
  len : s.b.length = s.w * s.h
theorem Scr.Ok.dk {s : Scr} (h : s.Ok) : s.Dk := ⟨h.w1, h.w2, h.h1, h.h2, h.y, h.len⟩
set_option maxHeartbeats 4000000 in
set_option maxRecDepth 20000 in
theorem rdown_step (s : Scr) (v : Value) (w : World) (R : RScrAt w v s) (hs : s.Dk) (hy : s.y + 1 < s.h) :
    Calls Try.prog 35 #[v] w fun e w' => ∃ v, e = .returned v ∧ RScrAt w' v (nl s) ∧ Below w.heap.size w w' := by
  obtain ⟨b, off, c, rfl, hc, hr⟩ := R
  have hyi : (s.y : Int) + 1 < s.h := by omega
  have hy24 : s.y < 24 := by have := hs.h2; omega
  have hbl := hr.lt
  have hnl : nl s = { s with x := 0, y := s.y + 1 } := by unfold nl; rw [if_pos hy]
  have HNL := Lib.hid hnl
  have HR := Lib.hid hr
  clear hnl hr hs hy
  go_enter Try.func35, Try.ntmps35
  go_wp2_with fail
  refine bodyPost_ret (v := RV s.w s.h 0 (s.y + 1) (.slice (some ⟨b, off, none⟩) s.h c)) ?_ rfl ⟨_, rfl, ?_, ?_⟩
  · simp [results, Try.results35, go_sem]
  · rw [HNL.out]
    exact ⟨b, off, c, rfl, hc, HR.out.below (by (repeat (first | (with_reducible assumption) | (with_reducible exact Below.refl _ _) | with_reducible apply bl_drewN | with_reducible apply Below.drew | (with_reducible apply bl_alloc; focus (first | (simp; done) | (simp; omega) | omega)) | (with_reducible apply bl_set; focus (first | (simp; done) | (simp; omega) | omega)))))⟩
  · repeat (first | (with_reducible assumption) | (with_reducible exact Below.refl _ _) | with_reducible apply bl_drewN | with_reducible apply Below.drew | (with_reducible apply bl_alloc; focus (first | (simp; done) | (simp; omega) | omega)) | (with_reducible apply bl_set; focus (first | (simp; done) | (simp; omega) | omega)))
end Go.Proofs.Ytgdmeaoghhkknaa
