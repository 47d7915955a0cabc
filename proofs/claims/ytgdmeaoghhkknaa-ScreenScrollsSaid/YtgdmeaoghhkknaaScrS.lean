/- Screens, plainly: what is below the cursor; so many line ends; a line. -/
import Derived.Test.YtgdmeaoghhkknaaScrF
namespace Go.Proofs.Ytgdmeaoghhkknaa

/-- Below the cursor's row all is blank. -/
def Low (s : Scr) : Prop := ∀ c ∈ s.b.drop ((s.y + 1) * s.w), c = 32
theorem low_new (w h : Nat) : Low (newS w h) := fun c hc => List.eq_of_mem_replicate (List.mem_of_mem_drop hc)
theorem at_lt {s : Scr} (h : s.Ok) : s.y * s.w + s.x < (s.y + 1) * s.w := by rw [Nat.succ_mul]; have := h.x; omega
theorem low_set {s : Scr} (h : s.Ok) (l : Low s) (c : UInt8) : Low { s with b := s.b.set (s.y * s.w + s.x) c } := fun d hd => by
  have e : (s.b.set (s.y * s.w + s.x) c).drop ((s.y + 1) * s.w) = s.b.drop ((s.y + 1) * s.w) := by
    rw [List.drop_set, if_pos (at_lt h)]
  exact l d (by rw [← e]; exact hd)
theorem low_nl {s : Scr} (h : s.Ok) (l : Low s) : Low (nl s) := by
  unfold nl
  split
  · intro c hc
    refine l c ?_
    have e : (s.y + 1 + 1) * s.w = (s.y + 1) * s.w + s.w := Nat.succ_mul _ _
    have hc' : c ∈ s.b.drop ((s.y + 1 + 1) * s.w) := hc
    rw [e, ← List.drop_drop] at hc'
    exact List.mem_of_mem_drop hc'
  · rename_i hy
    intro c hc
    have hh : s.y + 1 = s.h := by have := h.y; omega
    have hwh := wh_le (w := s.w) h.h1
    have hc' : c ∈ (s.b.drop s.w ++ List.replicate s.w 32).drop ((s.y + 1) * s.w) := hc
    rw [List.drop_of_length_le (by rw [hh, Nat.mul_comm]; simp [h.len]; omega)] at hc'
    cases hc'
theorem low_put1 {s : Scr} (h : s.Ok) (l : Low s) (c : UInt8) : Low (put1 s c) := by
  unfold put1
  split
  · unfold putC
    split
    · exact fun d hd => low_set h l c d hd
    · exact low_nl (setB_ok h _ c) (low_set h l c)
  split
  · exact l
  split
  · exact l
  split
  · exact low_new _ _
  split
  · exact low_nl h l
  · exact l
theorem low_putL {s : Scr} (h : s.Ok) (l : Low s) (out : List UInt8) : Low (putL s out) := by
  induction out generalizing s with
  | nil => exact l
  | cons c out ih => exact ih (put1_ok h c) (low_put1 h l c)

/-- So many line ends. -/
def nls (s : Scr) : Nat → Scr
  | 0 => s
  | j + 1 => nl (nls s j)
theorem nls_ok {s : Scr} (h : s.Ok) : ∀ j, (nls s j).Ok
  | 0 => h
  | j + 1 => nl_ok (nls_ok h j)
theorem nls_w (s : Scr) : ∀ j, (nls s j).w = s.w ∧ (nls s j).h = s.h
  | 0 => ⟨rfl, rfl⟩
  | j + 1 => ⟨(nl_w _).trans (nls_w s j).1, (nl_h _).trans (nls_w s j).2⟩
theorem nls_at {s : Scr} (h : s.Ok) : ∀ j, j ≤ s.h → (nls s j).y = min (s.y + j) (s.h - 1) ∧ (nls s j).b = s.b.drop ((s.y + j - (s.h - 1)) * s.w) ++ List.replicate ((s.y + j - (s.h - 1)) * s.w) 32
  | 0, _ => by
    have := h.y
    refine ⟨by show s.y = _; omega, ?_⟩
    rw [show s.y + 0 - (s.h - 1) = 0 by omega]
    simp [nls]
  | j + 1, hj => by
    obtain ⟨hy, hb⟩ := nls_at h j (by omega)
    obtain ⟨hw, hh⟩ := nls_w s j
    have hy0 := h.y
    show (nl (nls s j)).y = _ ∧ (nl (nls s j)).b = _
    unfold nl
    rw [hy, hh, hw]
    by_cases hc : min (s.y + j) (s.h - 1) + 1 < s.h
    · rw [if_pos hc]
      refine ⟨by show min (s.y + j) (s.h - 1) + 1 = _; omega, ?_⟩
      show (nls s j).b = _
      rw [hb, show s.y + j - (s.h - 1) = 0 by omega, show s.y + (j + 1) - (s.h - 1) = 0 by omega]
    · rw [if_neg hc]
      refine ⟨by show min (s.y + j) (s.h - 1) = _; omega, ?_⟩
      show (nls s j).b.drop s.w ++ List.replicate s.w 32 = _
      obtain ⟨m, hm⟩ : ∃ m, s.y + j - (s.h - 1) = m := ⟨_, rfl⟩
      have hm1 : s.y + (j + 1) - (s.h - 1) = m + 1 := by omega
      have hmh : m + 1 ≤ s.h := by omega
      have hle : m * s.w + s.w ≤ s.b.length := by
        rw [h.len, ← Nat.succ_mul, Nat.mul_comm s.w]
        exact Nat.mul_le_mul_right _ hmh
      rw [hb, hm, hm1, List.drop_append_of_le_length (by simp; omega), List.drop_drop, List.append_assoc, List.replicate_append_replicate, Nat.succ_mul]
/-- As many as there are rows leave nothing. -/
theorem nls_all {s : Scr} (h : s.Ok) (l : Low s) : (nls s s.h).b = List.replicate (s.w * s.h) 32 := by
  obtain ⟨_, hb⟩ := nls_at h s.h (Nat.le_refl _)
  have hy := h.y
  rw [hb, show s.y + s.h - (s.h - 1) = s.y + 1 by omega]
  have hle : (s.y + 1) * s.w ≤ s.w * s.h := by rw [Nat.mul_comm s.w]; exact Nat.mul_le_mul_right _ hy
  refine List.eq_replicate_iff.2 ⟨by simp [h.len]; omega, fun c hc => ?_⟩
  rcases List.mem_append.1 hc with hc | hc
  · exact l c hc
  · exact List.eq_of_mem_replicate hc
/-- A line that fits. -/
theorem line_put (l : List UInt8) (hp : ∀ c ∈ l, plain c) : ∀ (s : Scr), s.Ok → s.x + l.length < s.w → putL s l = { s with x := s.x + l.length, b := s.b.take (s.y * s.w + s.x) ++ l ++ s.b.drop (s.y * s.w + s.x + l.length) } := by
  induction l with
  | nil => intro s _ _; simp [putL]
  | cons c l ih =>
    intro s h hx
    simp only [List.length_cons] at hx
    have hk : s.y * s.w + s.x < s.b.length := by
      have h1 := at_lt h
      have h2 : (s.y + 1) * s.w ≤ s.w * s.h := by rw [Nat.mul_comm s.w]; exact Nat.mul_le_mul_right _ h.y
      rw [h.len]; omega
    show putL (put1 s c) l = _
    have e : put1 s c = { s with x := s.x + 1, b := s.b.set (s.y * s.w + s.x) c } := by
      rw [put1_plain s (hp c (by simp))]; unfold putC; rw [if_pos (by omega)]
    have hok := put1_ok h c
    rw [e] at hok ⊢
    rw [ih (fun d hd => hp d (by simp [hd])) _ hok (by show s.x + 1 + l.length < s.w; omega)]
    simp only [Scr.mk.injEq, true_and, List.length_cons]
    refine ⟨by omega, ?_⟩
    obtain ⟨k, hke⟩ : ∃ k, s.y * s.w + s.x = k := ⟨_, rfl⟩
    rw [show s.y * s.w + (s.x + 1) = k + 1 by omega, hke]
    rw [hke] at hk
    rw [List.take_set, List.drop_set, if_pos (by omega), List.take_add_one, List.getElem?_eq_getElem hk]
    have e3 : (s.b.take k ++ (some s.b[k]).toList).set k c = s.b.take k ++ [c] := by
      rw [List.set_append_right _ _ (by simp; omega)]
      simp [show min k s.b.length = k by omega]
    rw [e3, show k + 1 + l.length = k + (l.length + 1) by omega]
    simp
end Go.Proofs.Ytgdmeaoghhkknaa
