/- New, Rule, Set. -/
import Derived.Test.YtpnbmfpdoipioaaSnd4
namespace Go.Proofs.Ytpnbmfpdoipioaa
open Go.RowKit

abbrev RV : Value := .agg #[fDiff, fSame]
set_option maxHeartbeats 1000000 in
theorem rule_any (w : World) : Calls Try.prog 10 #[] w fun e w' => e = .returned RV ∧ Below w.heap.size w w' := by
  go_enter Try.func10, Try.ntmps10
  go_wp2
  refine bodyPost_ret (v := RV) ?_ rfl ⟨rfl, ?_⟩
  · simp [results, Try.results10, go_sem]
  · repeat (first | (with_reducible assumption) | (with_reducible exact Below.refl _ _) | with_reducible apply bl_drewN | with_reducible apply Below.drew | (with_reducible apply bl_alloc; focus (first | (simp; done) | (simp; omega) | omega)) | (with_reducible apply bl_set; focus (first | (simp; done) | (simp; omega) | omega)))
theorem list_one {w : World} {g : Nat} {s : ByteArray} (B : Blk w g #[.int .u64 0, .int .u64 0, .string s] 70) (hs : s.size ≤ 1000) : ListAt w g 0 [⟨0, 0, s⟩] := by
  refine ⟨B.lt, fun j hj => ?_, fun j hj => ?_, fun j hj => ?_, fun j hj => ?_, by simp⟩
  all_goals obtain rfl : j = 0 := by simp at hj; exact hj
  · exact (B.cell _).trans rfl
  · exact (B.cell _).trans rfl
  · exact (B.cell _).trans rfl
  · exact ⟨Nat.zero_le _, Nat.zero_le _, hs⟩
def NewPost (s : ByteArray) (w : World) (e : Ending) (w' : World) : Prop := ∃ v, e = .returned v ∧ SenderAt w' v [⟨0, 0, s⟩] s 0 ∧ Below w.heap.size w w'
set_option maxHeartbeats 1000000 in
set_option maxRecDepth 20000 in
theorem new_any (s : ByteArray) (w : World) (hs : s.size ≤ 1000) : Calls Try.prog 9 #[.string s, RV] w fun e w' => NewPost s w e w' := by
  go_enter Try.func9, Try.ntmps9
  go_wp2
  refine bodyPost_ret (v := SV (.slice (some ⟨w.heap.size + 1 + 1, 0, none⟩) 1 1) s 0) ?_ rfl ⟨_, rfl, ⟨w.heap.size + 1 + 1, 0, 1, rfl, Nat.le_refl _, by unfold maxLen; omega, ?_, by omega, hs⟩, ?_⟩
  · simp [results, Try.results9, go_sem]
  · refine list_one ?_ hs
    (apply Blk.conv; focus (repeat (first | (with_reducible assumption) | (with_reducible apply Blk.new'; (first | (with_reducible rfl) | (simp; done))) | with_reducible apply Blk.alloc | with_reducible apply Blk.set | ((with_reducible apply Blk.set_ne); focus (first | (simp; done) | (simp; omega))) | with_reducible apply Blk.drewN | with_reducible apply Blk.drew)))
    (first | rfl | (simp; done) | (simp; omega))
  · repeat (first | (with_reducible assumption) | (with_reducible exact Below.refl _ _) | with_reducible apply bl_drewN | with_reducible apply Below.drew | (with_reducible apply bl_alloc; focus (first | (simp; done) | (simp; omega) | omega)) | (with_reducible apply bl_set; focus (first | (simp; done) | (simp; omega) | omega)))
def SetPost (l : List SSt) (s : ByteArray) (last : Nat) (w : World) (e : Ending) (w' : World) : Prop := ∃ v, e = .returned v ∧ SenderAt w' v l s last ∧ Below w.heap.size w w'
set_option maxHeartbeats 1000000 in
set_option maxRecDepth 20000 in
theorem set_any (v : Value) (l : List SSt) (now s : ByteArray) (last : Nat) (w : World) (S : SenderAt w v l now last) (hs : s.size ≤ 1000) :
    Calls Try.prog 11 #[v, .string s] w fun e w' => SetPost l s last w e w' := by
  obtain ⟨b, off, cap, rfl, hcap, hcm, L, hl1, hl2⟩ := S
  go_enter Try.func11, Try.ntmps11
  go_wp2
  refine bodyPost_ret (v := SV (.slice (some ⟨b, off, none⟩) l.length cap) s last) ?_ rfl ⟨_, rfl, ?_, ?_⟩
  · simp [results, Try.results11, go_sem]
  · exact (SenderAt.below (w := w) ⟨b, off, cap, rfl, hcap, hcm, L, hl1, hs⟩ (by (repeat (first | (with_reducible assumption) | (with_reducible exact Below.refl _ _) | with_reducible apply bl_drewN | with_reducible apply Below.drew | (with_reducible apply bl_alloc; focus (first | (simp; done) | (simp; omega) | omega)) | (with_reducible apply bl_set; focus (first | (simp; done) | (simp; omega) | omega))))))
  · repeat (first | (with_reducible assumption) | (with_reducible exact Below.refl _ _) | with_reducible apply bl_drewN | with_reducible apply Below.drew | (with_reducible apply bl_alloc; focus (first | (simp; done) | (simp; omega) | omega)) | (with_reducible apply bl_set; focus (first | (simp; done) | (simp; omega) | omega)))

theorem own_set {w : World} {base e size n g c j : Nat} {xs : List Value} (h : w.ownsRow base e size (.slice (some ⟨g, 0, none⟩) n c) n xs) (u : Value) (hn : 0 < n) : (w.setCell ⟨g, j, none⟩ u).ownsRow base e size (.slice (some ⟨g, 0, none⟩) n c) n (xs.set j u) := by
  refine ⟨by rw [List.length_set]; exact h.1, ?_⟩
  rcases h.2 with ⟨_, h5⟩ | ⟨b, cap, cur, h5, h6, h7, h8, h9, h10, h11⟩
  · omega
  · simp only [Value.slice.injEq, Option.some.injEq, Addr.mk.injEq] at h5
    obtain ⟨⟨rfl, _, _⟩, _, rfl⟩ := h5
    refine Or.inr ⟨g, c, cur.setIfInBounds j u, rfl, h6, ?_, h8, h9, by simpa using h10, ?_⟩
    · simp [World.setCell, Array.getElem?_modify, h7]
    · rw [Array.toList_setIfInBounds, List.take_set, h11]
theorem own_frozen {w : World} {base e size n g c : Nat} {xs : List Value} (h : w.ownsRow base e size (.slice (some ⟨g, 0, none⟩) n c) n xs) (hn : 0 < n) (o : Nat) : w.frozen? ⟨g, o, none⟩ = false := by
  rcases h.2 with ⟨_, h5⟩ | ⟨b, cap, cur, h5, h6, h7, _⟩
  · omega
  · simp only [Value.slice.injEq, Option.some.injEq, Addr.mk.injEq] at h5
    obtain ⟨⟨rfl, _, _⟩, _, rfl⟩ := h5
    simp [World.frozen?, h7]
def nextL (l : List SSt) (now : ByteArray) (tm : Nat) : List SSt :=
  let l1 := if freshB l now = true then l ++ [⟨(topS l).num + 1, 0, now⟩] else l
  l1.set (l1.length - 1) { topS l1 with sent := tm }
theorem sCells_set (l : List SSt) (k tm : Nat) (hk : k < l.length) : (sCells l).set (k * 3 + 1) (.int .u64 tm) = sCells (l.set k { l.getD k default with sent := tm }) := by
  induction l generalizing k with
  | nil => simp at hk
  | cons a l ih =>
    cases k with
    | zero => simp [sCells]
    | succ k =>
      have := ih k (by simpa using hk)
      have e1 : sCells (a :: l) = [Value.int .u64 a.num, .int .u64 a.sent, .string a.val] ++ sCells l := rfl
      have e2 : (a :: l).set (k + 1) { (a :: l).getD (k + 1) default with sent := tm } = a :: l.set k { l.getD k default with sent := tm } := by simp [List.getD]
      rw [e1, e2, show (k + 1) * 3 + 1 = k * 3 + 1 + 3 by omega]
      show [_, _, _] ++ (sCells l).set _ _ = _
      rw [this]
      rfl
end Go.Proofs.Ytpnbmfpdoipioaa
