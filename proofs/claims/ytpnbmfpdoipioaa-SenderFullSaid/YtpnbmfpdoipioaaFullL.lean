/- SenderFull: its states, plainly. -/
import Derived.Test.YtpnbmfpdoipioaaSndEndsL
import Derived.Lib.Repeat
namespace Go.Proofs.Ytpnbmfpdoipioaa
open Go.RowKit

def X (n : Nat) : ByteArray := ⟨(Lib.repeatL [120] n).toArray⟩
theorem rep_len (n : Nat) : (Lib.repeatL [(120 : UInt8)] n).length = n := by
  induction n with
  | zero => rfl
  | succ n ih => simp [Lib.repeatL, ih] <;> omega
theorem X_size (n : Nat) : (X n).size = n := by
  show (Lib.repeatL [(120 : UInt8)] n).toArray.size = n
  simp [rep_len]
theorem X_ne {i j : Nat} (h : i ≠ j) : X i ≠ X j := fun e => h (by rw [← X_size i, e, X_size])
def fl : Nat → List SSt
  | 0 => [⟨0, 0, X 0⟩]
  | i + 1 => fl i ++ [⟨i + 1, i, X (i + 1)⟩]
theorem fl_len : ∀ i, (fl i).length = i + 1
  | 0 => rfl
  | i + 1 => by simp [fl, fl_len i]
theorem fl_get : ∀ i j, j ≤ i → (fl i).getD j default = ⟨j, j - 1, X j⟩
  | 0, j, h => by
    obtain rfl : j = 0 := by omega
    rfl
  | i + 1, j, h => by
    by_cases e : j ≤ i
    · have : (fl (i + 1)).getD j default = (fl i).getD j default := by
        show (fl i ++ [_]).getD j default = _
        simp [List.getD, List.getElem?_append_left (by rw [fl_len]; omega : j < (fl i).length)]
      rw [this, fl_get i j e]
    · obtain rfl : j = i + 1 := by omega
      show (fl i ++ [_]).getD (i + 1) default = _
      simp [List.getD, List.getElem?_append_right (by rw [fl_len]; omega : (fl i).length ≤ i + 1), fl_len]
theorem fl_top (i : Nat) : topS (fl i) = ⟨i, i - 1, X i⟩ := by
  unfold topS
  rw [fl_len]
  exact fl_get i i (Nat.le_refl _)
theorem fl_rise (i : Nat) : Rise (fl i) (i - 1) i i :=
  ⟨by rw [fl_len]; omega, fun j hj => by rw [fl_len] at hj; rw [fl_get i j (by omega), fl_get i 0 (by omega)]; show j = 0 + j; omega, by rw [fl_top]; exact Nat.le_refl _, by rw [fl_top]; show i - 1 ≤ i; omega, by omega⟩
theorem fl_ack (i : Nat) : ackL (fl i) i = [⟨i, i - 1, X i⟩] := by
  have := (fl_rise i).ackTop
  rw [fl_top] at this
  exact this
theorem fresh_new (l : List SSt) (now : ByteArray) (h : now ≠ (topS l).val) (hl : l.length < 8) : freshB l now = true := by
  unfold freshB; simp [h, hl]
theorem nextL_new (l : List SSt) (now : ByteArray) (tm : Nat) (h : freshB l now = true) : nextL l now tm = l ++ [⟨(topS l).num + 1, tm, now⟩] := by
  unfold nextL
  simp only [h, if_true]
  have e : (l ++ [(⟨(topS l).num + 1, 0, now⟩ : SSt)]).length - 1 = l.length := by simp
  have e2 : topS (l ++ [(⟨(topS l).num + 1, 0, now⟩ : SSt)]) = ⟨(topS l).num + 1, 0, now⟩ := by rw [topS_get _ (by simp)]; simp
  rw [e, e2, List.set_append_right _ _ (Nat.le_refl _)]
  simp
theorem fl_fresh (i : Nat) (h : i < 7) : freshB (fl i) (X (i + 1)) = true := fresh_new _ _ (by rw [fl_top]; exact X_ne (by omega)) (by rw [fl_len]; omega)
theorem fl_next (i : Nat) (h : i < 7) : nextL (fl i) (X (i + 1)) i = fl (i + 1) := by
  rw [nextL_new _ _ _ (fl_fresh i h), fl_top]
  rfl
theorem due_new (l : List SSt) (now : ByteArray) (last wait beat tm : Nat) (h : freshB l now = true) : ¬ tm < dueU l now last wait beat := by
  unfold dueU; rw [if_pos h]; omega
theorem addU_gt (a b i : Nat) (h : i < a + b) (hi : i < 18446744073709551615) : i < addU a b := by unfold addU; split <;> omega
theorem full_wait (now : ByteArray) (i wait beat : Nat) (hi : i < 60) (hw : 100 ≤ wait) (hb : 100 ≤ beat) : i < dueU (fl 7) now 6 wait beat := by
  have hf : freshB (fl 7) now = false := by unfold freshB; rw [fl_len]; simp
  unfold dueU
  rw [hf, fl_len, fl_top]
  simp only [Bool.false_eq_true, if_false, show (1 : Nat) < 7 + 1 by omega, if_true]
  have h1 := addU_gt 6 beat i (by omega) (by omega)
  have h2 := addU_gt 6 wait i (by omega) (by omega)
  show i < min (addU 6 beat) (addU 6 wait)
  omega
theorem last_wait (k wait beat : Nat) (hk : k ≤ 7) (hb : 100 ≤ beat) : k < dueU [⟨k, k - 1, X k⟩] (X k) (k - 1) wait beat := by
  have hf : freshB [⟨k, k - 1, X k⟩] (X k) = false := by unfold freshB topS; simp
  unfold dueU
  rw [hf]
  simp only [Bool.false_eq_true, if_false, List.length_cons, List.length_nil, Nat.lt_irrefl]
  exact addU_gt _ _ _ (by omega) (by omega)
theorem one_quiet (n s : Nat) (v : ByteArray) : quietB [⟨n, s, v⟩] v = true := by unfold quietB; simp
theorem last_fresh (k : Nat) (hk : 8 ≤ k) : freshB [⟨7, 6, X 7⟩] (X k) = true := fresh_new _ _ (X_ne (by omega)) (by decide)
theorem last_next (k : Nat) (hk : 8 ≤ k) : nextL [⟨7, 6, X 7⟩] (X k) k = [⟨7, 6, X 7⟩, ⟨8, k, X k⟩] := by
  rw [nextL_new _ _ _ (last_fresh k hk)]; rfl
theorem last_ack (k : Nat) : ackL [⟨7, 6, X 7⟩, ⟨8, k, X k⟩] 8 = [⟨8, k, X k⟩] := by
  unfold ackL ackI; rfl
end Go.Proofs.Ytpnbmfpdoipioaa
