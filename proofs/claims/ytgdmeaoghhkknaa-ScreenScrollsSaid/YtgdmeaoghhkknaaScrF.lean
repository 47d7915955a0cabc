/- Screens, plainly: what fills one. -/
import Derived.Test.YtgdmeaoghhkknaaScrL
namespace Go.Proofs.Ytgdmeaoghhkknaa

def plain (c : UInt8) : Prop := 32 ≤ c.toNat ∧ c.toNat ≤ 126
theorem put1_plain (s : Scr) {c : UInt8} (h : plain c) : put1 s c = putC s c := by unfold put1; unfold plain at h; rw [if_pos h]
theorem step_in (k w : Nat) (h : k % w + 1 < w) : (k + 1) % w = k % w + 1 ∧ (k + 1) / w = k / w := by
  have hw : 0 < w := by omega
  have e : k + 1 = w * (k / w) + (k % w + 1) := by have := Nat.div_add_mod k w; omega
  constructor
  · rw [e, Nat.mul_add_mod, Nat.mod_eq_of_lt h]
  · rw [e, Nat.mul_add_div hw, Nat.div_eq_of_lt h]
    simp [Nat.mul_add_div hw, Nat.div_eq_of_lt (Nat.mod_lt k hw)]
theorem step_end (k w : Nat) (hw : 0 < w) (h : ¬ k % w + 1 < w) : (k + 1) % w = 0 ∧ (k + 1) / w = k / w + 1 := by
  have hm := Nat.mod_lt k hw
  have e : k + 1 = w * (k / w + 1) := by have := Nat.div_add_mod k w; rw [Nat.mul_add]; omega
  constructor
  · rw [e, Nat.mul_mod_right]
  · have : (k + 1) / w = w * (k / w + 1) / w := by rw [← e]
    rw [this, Nat.mul_div_cancel_left _ hw]
theorem at_mod (k w : Nat) : k / w * w + k % w = k := Nat.div_add_mod' k w
theorem set_fill (u : List UInt8) (n : Nat) (c : UInt8) (hn : 0 < n) : (u ++ List.replicate n 32).set u.length c = (u ++ [c]) ++ List.replicate (n - 1) 32 := by
  obtain ⟨m, rfl⟩ : ∃ m, n = m + 1 := ⟨n - 1, by omega⟩
  rw [List.set_append_right _ _ (Nat.le_refl _), Nat.sub_self, List.replicate_succ, List.set_cons_zero]
  simp
/-- A blank screen behind so many plain bytes. -/
def filled (w h : Nat) (t : List UInt8) : Scr := ⟨w, h, t.length % w, t.length / w, t ++ List.replicate (w * h - t.length) 32⟩
theorem fill_step (w h : Nat) (w1 : 1 ≤ w) (u : List UInt8) (c : UInt8) (hl : u.length + 1 < w * h) : putC (filled w h u) c = filled w h (u ++ [c]) := by
  unfold putC filled
  simp only
  rw [at_mod, set_fill _ _ _ (by omega)]
  by_cases hx : u.length % w + 1 < w
  · obtain ⟨e1, e2⟩ := step_in _ _ hx
    rw [if_pos hx]
    simp only [List.length_append, List.length_cons, List.length_nil, Nat.zero_add, e1, e2, Scr.mk.injEq, true_and]
    rw [Nat.sub_sub]
  · obtain ⟨e1, e2⟩ := step_end _ _ w1 hx
    have hd : (u.length + 1) / w < h := (Nat.div_lt_iff_lt_mul w1).2 (by rw [Nat.mul_comm]; exact hl)
    rw [if_neg hx]
    unfold nl
    simp only
    rw [if_pos (by rw [← e2]; exact hd)]
    simp only [List.length_append, List.length_cons, List.length_nil, Nat.zero_add, e1, e2, Scr.mk.injEq, true_and]
    rw [Nat.sub_sub]
theorem fill (w h : Nat) (w1 : 1 ≤ w) (t u : List UInt8) (hp : ∀ c ∈ t, plain c) (hl : u.length + t.length < w * h) : putL (filled w h u) t = filled w h (u ++ t) := by
  induction t generalizing u with
  | nil => simp [putL]
  | cons c t ih =>
    simp only [List.length_cons] at hl
    show putL (put1 (filled w h u) c) t = _
    rw [put1_plain _ (hp c (by simp)), fill_step w h w1 u c (by omega), ih (u ++ [c]) (fun d hd => hp d (by simp [hd])) (by simp; omega)]
    simp
theorem newS_filled (w h : Nat) : newS w h = filled w h [] := by simp [newS, filled]
theorem fill_new (w h : Nat) (w1 : 1 ≤ w) (t : List UInt8) (hp : ∀ c ∈ t, plain c) (hl : t.length < w * h) : putL (newS w h) t = filled w h t := by
  rw [newS_filled, fill w h w1 t [] hp (by simpa using hl)]; rfl
theorem fill_all (w h : Nat) (w1 : 1 ≤ w) (h1 : 1 ≤ h) (t : List UInt8) (hp : ∀ c ∈ t, plain c) (hl : t.length = w * h) :
    putL (newS w h) t = ⟨w, h, 0, h - 1, t.drop w ++ List.replicate w 32⟩ := by
  have hwh := wh_le (w := w) h1
  have hne : t ≠ [] := by intro e; subst e; simp at hl; omega
  obtain ⟨u, c, rfl⟩ : ∃ u c, t = u ++ [c] := ⟨_, _, (List.dropLast_concat_getLast hne).symm⟩
  simp only [List.length_append, List.length_cons, List.length_nil, Nat.zero_add] at hl
  rw [putL_app, fill_new w h w1 u (fun d hd => hp d (by simp [hd])) (by omega)]
  show put1 (filled w h u) c = _
  rw [put1_plain _ (hp c (by simp))]
  unfold putC filled
  simp only
  rw [at_mod, set_fill _ _ _ (by omega)]
  have hx : ¬ u.length % w + 1 < w := fun hx => by
    obtain ⟨e1, _⟩ := step_in _ _ hx
    rw [hl, Nat.mul_mod_right] at e1; omega
  obtain ⟨_, e2⟩ := step_end _ _ w1 hx
  have hd : (u.length + 1) / w = h := by rw [hl]; exact Nat.mul_div_cancel_left h w1
  rw [if_neg hx]
  unfold nl
  simp only
  rw [if_neg (by omega)]
  simp only [Scr.mk.injEq, true_and]
  exact ⟨by omega, by rw [show w * h - u.length - 1 = 0 by omega]; simp⟩
end Go.Proofs.Ytgdmeaoghhkknaa
