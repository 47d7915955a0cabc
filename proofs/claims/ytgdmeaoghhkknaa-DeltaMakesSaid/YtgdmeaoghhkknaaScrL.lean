/- Screens, plainly: what stands on one behind output. -/
import Derived.Test.YtgdmeaoghhkknaaStr
namespace Go.Proofs.Ytgdmeaoghhkknaa

structure Scr where
  w : Nat
  h : Nat
  x : Nat
  y : Nat
  b : List UInt8
instance : Inhabited Scr := ⟨⟨0, 0, 0, 0, []⟩⟩
structure Scr.Ok (s : Scr) : Prop where
  w1 : 1 ≤ s.w
  w2 : s.w ≤ 80
  h1 : 1 ≤ s.h
  h2 : s.h ≤ 24
  x : s.x < s.w
  y : s.y < s.h
  len : s.b.length = s.w * s.h
def newS (w h : Nat) : Scr := ⟨w, h, 0, 0, List.replicate (w * h) 32⟩
def nl (s : Scr) : Scr := if s.y + 1 < s.h then { s with x := 0, y := s.y + 1 } else { s with x := 0, b := s.b.drop s.w ++ List.replicate s.w 32 }
def putC (s : Scr) (c : UInt8) : Scr := if s.x + 1 < s.w then { s with x := s.x + 1, b := s.b.set (s.y * s.w + s.x) c } else nl { s with b := s.b.set (s.y * s.w + s.x) c }
def put1 (s : Scr) (c : UInt8) : Scr :=
  if 32 ≤ c.toNat ∧ c.toNat ≤ 126 then putC s c
  else if c.toNat = 13 then { s with x := 0 }
  else if c.toNat = 8 then { s with x := s.x - 1 }
  else if c.toNat = 12 then newS s.w s.h
  else if c.toNat = 10 then nl s
  else s
def putL (s : Scr) (out : List UInt8) : Scr := out.foldl put1 s

theorem newS_ok {w h : Nat} (w1 : 1 ≤ w) (w2 : w ≤ 80) (h1 : 1 ≤ h) (h2 : h ≤ 24) : (newS w h).Ok := ⟨w1, w2, h1, h2, by show 0 < w; omega, by show 0 < h; omega, by simp [newS]⟩
theorem nl_w (s : Scr) : (nl s).w = s.w := by unfold nl; split <;> rfl
theorem nl_h (s : Scr) : (nl s).h = s.h := by unfold nl; split <;> rfl
theorem nl_x (s : Scr) : (nl s).x = 0 := by unfold nl; split <;> rfl
theorem nl_y (s : Scr) : (nl s).y = if s.y + 1 < s.h then s.y + 1 else s.y := by unfold nl; split <;> rfl
theorem wh_le {w h : Nat} (h1 : 1 ≤ h) : w ≤ w * h := Nat.le_mul_of_pos_right w h1
theorem nl_len {s : Scr} (h1 : 1 ≤ s.h) (hl : s.b.length = s.w * s.h) : (nl s).b.length = s.w * s.h := by
  unfold nl
  split
  · exact hl
  · have := wh_le (w := s.w) h1
    simp; omega
theorem nl_ok {s : Scr} (h : s.Ok) : (nl s).Ok := by
  refine ⟨by rw [nl_w]; exact h.w1, by rw [nl_w]; exact h.w2, by rw [nl_h]; exact h.h1, by rw [nl_h]; exact h.h2, by rw [nl_w, nl_x]; have := h.w1; omega, ?_, by rw [nl_w, nl_h]; exact nl_len h.h1 h.len⟩
  rw [nl_y, nl_h]; have := h.y; split <;> omega
theorem setB_ok {s : Scr} (h : s.Ok) (k : Nat) (c : UInt8) : ({ s with b := s.b.set k c } : Scr).Ok := ⟨h.w1, h.w2, h.h1, h.h2, h.x, h.y, by simp [h.len]⟩
theorem putC_ok {s : Scr} (h : s.Ok) (c : UInt8) : (putC s c).Ok := by
  unfold putC
  split
  · rename_i hx; exact ⟨h.w1, h.w2, h.h1, h.h2, hx, h.y, by simp [h.len]⟩
  · exact nl_ok (setB_ok h _ c)
theorem put1_ok {s : Scr} (h : s.Ok) (c : UInt8) : (put1 s c).Ok := by
  unfold put1
  split
  · exact putC_ok h c
  split
  · exact ⟨h.w1, h.w2, h.h1, h.h2, by have := h.w1; show 0 < s.w; omega, h.y, h.len⟩
  split
  · exact ⟨h.w1, h.w2, h.h1, h.h2, by have := h.x; show s.x - 1 < s.w; omega, h.y, h.len⟩
  split
  · exact newS_ok h.w1 h.w2 h.h1 h.h2
  split
  · exact nl_ok h
  · exact h
theorem putL_ok {s : Scr} (h : s.Ok) (out : List UInt8) : (putL s out).Ok := by
  induction out generalizing s with
  | nil => exact h
  | cons c out ih => exact ih (put1_ok h c)
theorem putL_app (s : Scr) (a b : List UInt8) : putL s (a ++ b) = putL (putL s a) b := List.foldl_append ..
theorem putC_w (s : Scr) (c : UInt8) : (putC s c).w = s.w ∧ (putC s c).h = s.h := by
  unfold putC; split
  · exact ⟨rfl, rfl⟩
  · exact ⟨nl_w _, nl_h _⟩
theorem put1_w (s : Scr) (c : UInt8) : (put1 s c).w = s.w ∧ (put1 s c).h = s.h := by
  unfold put1
  split
  · exact putC_w s c
  split
  · exact ⟨rfl, rfl⟩
  split
  · exact ⟨rfl, rfl⟩
  split
  · exact ⟨rfl, rfl⟩
  split
  · exact ⟨nl_w s, nl_h s⟩
  · exact ⟨rfl, rfl⟩
theorem putL_w (s : Scr) (out : List UInt8) : (putL s out).w = s.w ∧ (putL s out).h = s.h := by
  induction out generalizing s with
  | nil => exact ⟨rfl, rfl⟩
  | cons c out ih => have := ih (put1 s c); have h2 := put1_w s c; exact ⟨this.1.trans h2.1, this.2.trans h2.2⟩
end Go.Proofs.Ytgdmeaoghhkknaa
