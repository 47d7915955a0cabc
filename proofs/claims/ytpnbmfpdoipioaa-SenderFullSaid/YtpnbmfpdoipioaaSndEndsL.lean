/- What senders are behind turns: the plain law of SenderEnds. -/
import Derived.Test.YtpnbmfpdoipioaaSnd5
namespace Go.Proofs.Ytpnbmfpdoipioaa
open Go.RowKit

theorem topS_get (l : List SSt) (h : 0 < l.length) : topS l = l[l.length - 1] := by
  unfold topS
  rw [List.getD, List.getElem?_eq_getElem (by omega)]; rfl
theorem getD_get (l : List SSt) (j : Nat) (h : j < l.length) : l.getD j default = l[j] := by
  rw [List.getD, List.getElem?_eq_getElem h]; rfl
def mL (l : List SSt) (now : ByteArray) : List SSt := if freshB l now = true then l ++ [⟨(topS l).num + 1, 0, now⟩] else l
theorem nextL_mL (l : List SSt) (now : ByteArray) (tm : Nat) : nextL l now tm = (mL l now).set ((mL l now).length - 1) { topS (mL l now) with sent := tm } := rfl
theorem mL_length (l : List SSt) (now : ByteArray) : (mL l now).length = if freshB l now = true then l.length + 1 else l.length := by
  unfold mL; split <;> simp
theorem mL_pos (l : List SSt) (now : ByteArray) (h : 0 < l.length) : 0 < (mL l now).length := by
  rw [mL_length]; split <;> omega
theorem nextL_length (l : List SSt) (now : ByteArray) (tm : Nat) : (nextL l now tm).length = (mL l now).length := by rw [nextL_mL, List.length_set]
theorem nextL_top (l : List SSt) (now : ByteArray) (tm : Nat) (h : 0 < l.length) : topS (nextL l now tm) = { topS (mL l now) with sent := tm } := by
  have hp := mL_pos l now h
  rw [topS_get _ (by rw [nextL_length]; exact hp)]
  simp [nextL_mL]
theorem nextL_num (l : List SSt) (now : ByteArray) (tm j : Nat) (hj : j < (mL l now).length) : ((nextL l now tm).getD j default).num = ((mL l now).getD j default).num := by
  rw [nextL_mL]
  by_cases e : (mL l now).length - 1 = j
  · subst e
    simp [List.getD, hj, topS]
  · simp [List.getD, List.getElem?_set_ne e]
theorem mL_top (l : List SSt) (now : ByteArray) (h : 0 < l.length) : topS (mL l now) = if freshB l now = true then ⟨(topS l).num + 1, 0, now⟩ else topS l := by
  unfold mL
  split
  · rw [topS_get _ (by simp)]; simp
  · rfl

structure Rise (l : List SSt) (last tm k : Nat) : Prop where
  pos : 0 < l.length
  con : ∀ j, j < l.length → (l.getD j default).num = (l.getD 0 default).num + j
  top : (topS l).num ≤ k
  sent : (topS l).sent ≤ tm
  last : last ≤ tm
theorem Rise.mono {l : List SSt} {last tm k tm' k' : Nat} (h : Rise l last tm k) (h1 : tm ≤ tm') (h2 : k ≤ k') : Rise l last tm' k' :=
  ⟨h.pos, h.con, Nat.le_trans h.top h2, Nat.le_trans h.sent h1, Nat.le_trans h.last h1⟩
theorem Rise.topNum {l : List SSt} {last tm k : Nat} (h : Rise l last tm k) : (topS l).num = (l.getD 0 default).num + (l.length - 1) := h.con _ (by have := h.pos; omega)
theorem Rise.mCon {l : List SSt} {last tm k : Nat} (h : Rise l last tm k) (now : ByteArray) : ∀ j, j < (mL l now).length → ((mL l now).getD j default).num = (l.getD 0 default).num + j := by
  have hp := h.pos
  intro j hj
  unfold mL at hj ⊢
  split
  · rename_i hf
    rw [if_pos hf] at hj
    by_cases e : j < l.length
    · have : (l ++ [(⟨(topS l).num + 1, 0, now⟩ : SSt)]).getD j default = l.getD j default := by simp [List.getD, List.getElem?_append_left e]
      rw [this]; exact h.con j e
    · have e2 : j = l.length := by simp at hj; omega
      have : (l ++ [(⟨(topS l).num + 1, 0, now⟩ : SSt)]).getD j default = ⟨(topS l).num + 1, 0, now⟩ := by subst e2; simp [List.getD]
      rw [this]
      show (topS l).num + 1 = _
      rw [h.topNum]; omega
  · rename_i hf
    rw [if_neg hf] at hj
    exact h.con j hj
theorem Rise.next {l : List SSt} {last tm k : Nat} (h : Rise l last tm k) (now : ByteArray) (tm' : Nat) : Rise (nextL l now tm') tm' tm' (k + 1) := by
  have hp := h.pos
  have hm := mL_pos l now hp
  refine ⟨by rw [nextL_length]; exact hm, fun j hj => ?_, ?_, by rw [nextL_top _ _ _ hp]; exact Nat.le_refl _, Nat.le_refl _⟩
  · rw [nextL_length] at hj
    rw [nextL_num _ _ _ _ hj, nextL_num _ _ _ _ hm, h.mCon now j hj, h.mCon now 0 hm]
    omega
  · rw [nextL_top _ _ _ hp]
    show (topS (mL l now)).num ≤ k + 1
    rw [mL_top _ _ hp]
    have := h.top
    split
    · show (topS l).num + 1 ≤ k + 1; omega
    · omega
theorem ackL_pos (l : List SSt) (n : Nat) (h : 0 < l.length) : 0 < (ackL l n).length := by
  unfold ackL; split
  · rw [List.length_drop]; omega
  · exact h
theorem ackL_top (l : List SSt) (n : Nat) (h : 0 < l.length) : topS (ackL l n) = topS l := by
  unfold ackL
  split
  · rename_i hi
    rw [topS_get _ (by rw [List.length_drop]; omega), topS_get _ h, List.getElem_drop]
    congr 1
    rw [List.length_drop]; omega
  · rfl
theorem Rise.ack {l : List SSt} {last tm k : Nat} (h : Rise l last tm k) (n : Nat) : Rise (ackL l n) last tm k := by
  refine ⟨ackL_pos l n h.pos, ?_, by rw [ackL_top _ _ h.pos]; exact h.top, by rw [ackL_top _ _ h.pos]; exact h.sent, h.last⟩
  unfold ackL
  split
  · rename_i hi
    intro j hj
    rw [List.length_drop] at hj
    have hg : ∀ j, (l.drop (ackI l n)).getD j default = l.getD (ackI l n + j) default := fun j => by simp [List.getD, List.getElem?_drop]
    rw [hg j, hg 0, h.con (ackI l n + j) (by omega), h.con (ackI l n + 0) (by omega)]
    omega
  · exact h.con
/-- Who answers the last leaves but that one. -/
theorem Rise.ackTop {l : List SSt} {last tm k : Nat} (h : Rise l last tm k) : ackL l (topS l).num = [topS l] := by
  have hp := h.pos
  have hi : ackI l (topS l).num = l.length - 1 := ackI_hit l _ _ (by omega) rfl (fun j hj => by
    rw [h.con j (by omega), h.topNum]; omega)
  unfold ackL
  rw [hi, if_pos (by omega), topS_get _ hp]
  have := List.drop_eq_getElem_cons (l := l) (i := l.length - 1) (by omega)
  rw [this, show l.length - 1 + 1 = l.length by omega, List.drop_length]
/-- Where there is but one state what goes out is the current one. -/
theorem next_val {l : List SSt} (now : ByteArray) (tm : Nat) (h : l.length = 1) : (topS (nextL l now tm)).val = now := by
  rw [nextL_top _ _ _ (by omega)]
  show (topS (mL l now)).val = now
  rw [mL_top _ _ (by omega)]
  split
  · rfl
  · rename_i hf
    unfold freshB at hf
    simp [h] at hf
    exact hf.symm
theorem Rise.due {l : List SSt} {last tm k : Nat} (h : Rise l last tm k) (now : ByteArray) (htm : tm ≤ 1000000) : ¬ tm + 1000 < dueU l now last 1000 1000 := by
  have h1 := h.last
  have h2 : addU last 1000 = last + 1000 := by unfold addU; rw [if_neg (by omega)]
  unfold dueU
  split
  · omega
  · split
    · rw [h2]; omega
    · rw [h2]; omega
theorem quiet_one (x : SSt) (now : ByteArray) (h : x.val = now) : quietB [x] now = true := by simp [quietB, h]
end Go.Proofs.Ytpnbmfpdoipioaa
