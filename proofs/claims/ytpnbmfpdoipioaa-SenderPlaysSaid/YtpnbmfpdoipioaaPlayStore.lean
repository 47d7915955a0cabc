/- The law's two variables: a sender's, and the document's. -/
import Derived.Test.YtpnbmfpdoipioaaSnd8
import Derived.Test.YtpnbmfpdoipioaaSenderEndsW
namespace Go.Proofs.Ytpnbmfpdoipioaa
open Go.RowKit

theorem list_ne6 {w : World} {b off b6 : Nat} {l : List SSt} {a : Option Addr} {m c : Nat} {t : ByteArray} {x : Int} (L : ListAt w b off l) (B : Blk w b6 #[.slice a m c, .string t, .int .u64 x] 50) : b ≠ b6 := by
  intro e
  subst e
  have h0 := L.c0 0 L.pos.1
  have h1 := L.c1 0 L.pos.1
  simp only [Nat.zero_mul, Nat.add_zero] at h0 h1
  rw [B.cell] at h0 h1
  match off, h0, h1 with
  | 0, h0, _ => simp at h0
  | 1, h0, _ => simp at h0
  | 2, _, h1 => simp at h1
  | (n + 3), h0, _ => simp at h0
/-- Both variables: the sender's block b5, the document's b6. -/
structure Both (w0 w : World) (b5 b6 : Nat) (l : List SSt) (cur : ByteArray) (last : Nat) (a : Option Addr) (m c : Nat) (a' : Option Addr) (m' c' : Nat) : Prop where
  B5 : Blk w b5 #[fDiff, fSame, .slice a m c, .string cur, .int .u64 last] 31
  S : SenderAt w (SV (.slice a m c) cur last) l cur last
  B6 : Blk w b6 #[.slice a' m' c', .string cur, .int .u64 last] 50
  Q : RefAt w (QV (.slice a' m' c') cur last) l cur last
  HB : Below w0.heap.size w0 w
  g5 : w0.heap.size ≤ b5
  g6 : w0.heap.size ≤ b6
  ne : b5 ≠ b6
theorem Both.below {w0 w w' : World} {b5 b6 : Nat} {l : List SSt} {cur : ByteArray} {last : Nat} {a : Option Addr} {m c : Nat} {a' : Option Addr} {m' c' : Nat} (h : Both w0 w b5 b6 l cur last a m c a' m' c') (g : Below w.heap.size w w') : Both w0 w' b5 b6 l cur last a m c a' m' c' :=
  ⟨h.B5.below g, h.S.below g, h.B6.below g, h.Q.below g, Below.thn h.HB g h.HB.size, h.g5, h.g6, h.ne⟩
theorem ListAt.keep2 {w w' : World} {b off b5 b6 : Nat} {l : List SSt} (L : ListAt w b off l) (h5 : b ≠ b5) (h6 : b ≠ b6) (h : ∀ q, q ≠ b5 → q ≠ b6 → w'.heap[q]? = w.heap[q]?) (hs : w'.heap.size = w.heap.size) : ListAt w' b off l := by
  have hc : ∀ o, w'.cell? ⟨b, o, none⟩ = w.cell? ⟨b, o, none⟩ := fun o => World.cell?_of_block (h b h5 h6)
  exact ⟨by rw [hs]; exact L.lt, fun j hj => (hc _).trans (L.c0 j hj), fun j hj => (hc _).trans (L.c1 j hj), fun j hj => (hc _).trans (L.c2 j hj), L.small, L.pos⟩
/-- New values of both, laid where the old ones were. -/
theorem both_laid {w0 w w' : World} {b5 b6 : Nat} {l l2 : List SSt} {cur cur2 : ByteArray} {last last2 : Nat} {a a2 : Option Addr} {m c m2 c2 : Nat} {a' a2' : Option Addr} {m' c' m2' c2' : Nat} (h : Both w0 w b5 b6 l cur last a m c a' m' c')
    (S : SenderAt w (SV (.slice a2 m2 c2) cur2 last2) l2 cur2 last2) (Q : RefAt w (QV (.slice a2' m2' c2') cur2 last2) l2 cur2 last2)
    (B5 : Blk w' b5 #[fDiff, fSame, .slice a2 m2 c2, .string cur2, .int .u64 last2] 31) (B6 : Blk w' b6 #[.slice a2' m2' c2', .string cur2, .int .u64 last2] 50)
    (hk : ∀ q, q ≠ b5 → q ≠ b6 → w'.heap[q]? = w.heap[q]?) (hs : w'.heap.size = w.heap.size) (HB : Below w0.heap.size w0 w') : Both w0 w' b5 b6 l2 cur2 last2 a2 m2 c2 a2' m2' c2' := by
  refine ⟨B5, ?_, B6, ?_, HB, h.g5, h.g6, h.ne⟩
  · obtain ⟨b, off, cap, h1, h2, h3, L, h4⟩ := S
    exact ⟨b, off, cap, h1, h2, h3, L.keep2 (list_ne L h.B5) (list_ne6 L h.B6) hk hs, h4⟩
  · obtain ⟨b, off, cap, h1, h2, h3, L, h4⟩ := Q
    exact ⟨b, off, cap, h1, h2, h3, L.keep2 (list_ne L h.B5) (list_ne6 L h.B6) hk hs, h4⟩
theorem heap_set53 (w : World) (b b' : Nat) (v0 v1 v2 v3 v4 u0 u1 u2 : Value) : (∀ q, q ≠ b → q ≠ b' → ((((((((w.setCell ⟨b, 0, none⟩ v0).setCell ⟨b, 1, none⟩ v1).setCell ⟨b, 2, none⟩ v2).setCell ⟨b, 3, none⟩ v3).setCell ⟨b, 4, none⟩ v4).setCell ⟨b', 0, none⟩ u0).setCell ⟨b', 1, none⟩ u1).setCell ⟨b', 2, none⟩ u2).heap[q]? = w.heap[q]?) ∧
    ((((((((w.setCell ⟨b, 0, none⟩ v0).setCell ⟨b, 1, none⟩ v1).setCell ⟨b, 2, none⟩ v2).setCell ⟨b, 3, none⟩ v3).setCell ⟨b, 4, none⟩ v4).setCell ⟨b', 0, none⟩ u0).setCell ⟨b', 1, none⟩ u1).setCell ⟨b', 2, none⟩ u2).heap.size = w.heap.size := by
  refine ⟨fun q hq hq' => ?_, by simp⟩
  simp [World.setCell, Array.getElem?_modify, Ne.symm hq, Ne.symm hq']
theorem heap_set51 (w : World) (b b' : Nat) (v0 v1 v2 v3 v4 u1 : Value) : (∀ q, q ≠ b → q ≠ b' → ((((((w.setCell ⟨b, 0, none⟩ v0).setCell ⟨b, 1, none⟩ v1).setCell ⟨b, 2, none⟩ v2).setCell ⟨b, 3, none⟩ v3).setCell ⟨b, 4, none⟩ v4).setCell ⟨b', 1, none⟩ u1).heap[q]? = w.heap[q]?) ∧
    ((((((w.setCell ⟨b, 0, none⟩ v0).setCell ⟨b, 1, none⟩ v1).setCell ⟨b, 2, none⟩ v2).setCell ⟨b, 3, none⟩ v3).setCell ⟨b, 4, none⟩ v4).setCell ⟨b', 1, none⟩ u1).heap.size = w.heap.size := by
  refine ⟨fun q hq hq' => ?_, by simp⟩
  simp [World.setCell, Array.getElem?_modify, Ne.symm hq, Ne.symm hq']
theorem both_set {w0 w : World} {b5 b6 A : Nat} {cs : Array Value} {l : List SSt} {cur t : ByteArray} {last : Nat} {a a2 : Option Addr} {m c m2 c2 : Nat} {a' : Option Addr} {m' c' : Nat} (h : Both w0 w b5 b6 l cur last a m c a' m' c') (BA : Blk w A cs 35) (hA5 : A ≠ b5) (hA6 : A ≠ b6)
    (S : SenderAt w (SV (.slice a2 m2 c2) t last) l t last) (ht : t.size ≤ 1000) :
    Both w0 ((((((w.setCell ⟨b5, 0, none⟩ fDiff).setCell ⟨b5, 1, none⟩ fSame).setCell ⟨b5, 2, none⟩ (.slice a2 m2 c2)).setCell ⟨b5, 3, none⟩ (.string t)).setCell ⟨b5, 4, none⟩ (.int .u64 last)).setCell ⟨b6, 1, none⟩ (.string t)) b5 b6 l t last a2 m2 c2 a' m' c' ∧
    Blk ((((((w.setCell ⟨b5, 0, none⟩ fDiff).setCell ⟨b5, 1, none⟩ fSame).setCell ⟨b5, 2, none⟩ (.slice a2 m2 c2)).setCell ⟨b5, 3, none⟩ (.string t)).setCell ⟨b5, 4, none⟩ (.int .u64 last)).setCell ⟨b6, 1, none⟩ (.string t)) A cs 35 := by
  have hh := heap_set51 w b5 b6 fDiff fSame (.slice a2 m2 c2) (.string t) (.int .u64 last) (.string t)
  have Q : RefAt w (QV (.slice a' m' c') t last) l t last := by
    obtain ⟨b, off, cap, h1, h2, h3, L, h4, h5⟩ := h.Q
    simp only [QV, Value.agg.injEq, Array.mk.injEq, List.cons.injEq, Value.slice.injEq, and_true] at h1
    obtain ⟨h6, h7, h8⟩ := h1
    subst h6 h7 h8
    exact ⟨b, off, c', rfl, h2, h3, L, h4, ht⟩
  refine ⟨both_laid h S Q ?_ ?_ hh.1 hh.2 ?_, ⟨(hh.1 A hA5 hA6).trans BA.out⟩⟩
  · exact Blk.set_ne (a := ⟨b6, 1, none⟩) h.ne (h.B5.set.set.set.set.set.conv rfl)
  · exact (BA_set5 (b := b5) h.B6 h.ne.symm _ _ _ _ _).set.conv rfl
  · exact (((((h.HB.setCell (p := ⟨b5, 0, none⟩) h.g5 _).setCell (p := ⟨b5, 1, none⟩) h.g5 _).setCell (p := ⟨b5, 2, none⟩) h.g5 _).setCell (p := ⟨b5, 3, none⟩) h.g5 _).setCell (p := ⟨b5, 4, none⟩) h.g5 _).setCell (p := ⟨b6, 1, none⟩) h.g6 _
theorem both_store {w0 w : World} {b5 b6 A : Nat} {cs : Array Value} {l l2 : List SSt} {cur cur2 : ByteArray} {last last2 : Nat} {a a2 : Option Addr} {m c m2 c2 : Nat} {a' a2' : Option Addr} {m' c' m2' c2' : Nat} (h : Both w0 w b5 b6 l cur last a m c a' m' c') (BA : Blk w A cs 35) (hA5 : A ≠ b5) (hA6 : A ≠ b6)
    (S : SenderAt w (SV (.slice a2 m2 c2) cur2 last2) l2 cur2 last2) (Q : RefAt w (QV (.slice a2' m2' c2') cur2 last2) l2 cur2 last2) :
    Both w0 ((((((((w.setCell ⟨b5, 0, none⟩ fDiff).setCell ⟨b5, 1, none⟩ fSame).setCell ⟨b5, 2, none⟩ (.slice a2 m2 c2)).setCell ⟨b5, 3, none⟩ (.string cur2)).setCell ⟨b5, 4, none⟩ (.int .u64 last2)).setCell ⟨b6, 0, none⟩ (.slice a2' m2' c2')).setCell ⟨b6, 1, none⟩ (.string cur2)).setCell ⟨b6, 2, none⟩ (.int .u64 last2)) b5 b6 l2 cur2 last2 a2 m2 c2 a2' m2' c2' ∧
    Blk ((((((((w.setCell ⟨b5, 0, none⟩ fDiff).setCell ⟨b5, 1, none⟩ fSame).setCell ⟨b5, 2, none⟩ (.slice a2 m2 c2)).setCell ⟨b5, 3, none⟩ (.string cur2)).setCell ⟨b5, 4, none⟩ (.int .u64 last2)).setCell ⟨b6, 0, none⟩ (.slice a2' m2' c2')).setCell ⟨b6, 1, none⟩ (.string cur2)).setCell ⟨b6, 2, none⟩ (.int .u64 last2)) A cs 35 := by
  have hh := heap_set53 w b5 b6 fDiff fSame (.slice a2 m2 c2) (.string cur2) (.int .u64 last2) (.slice a2' m2' c2') (.string cur2) (.int .u64 last2)
  refine ⟨both_laid h S Q ?_ ?_ hh.1 hh.2 ?_, ⟨(hh.1 A hA5 hA6).trans BA.out⟩⟩
  · exact Blk.set_ne (a := ⟨b6, 2, none⟩) h.ne (Blk.set_ne (a := ⟨b6, 1, none⟩) h.ne (Blk.set_ne (a := ⟨b6, 0, none⟩) h.ne (h.B5.set.set.set.set.set.conv rfl)))
  · exact (BA_set5 (b := b5) h.B6 h.ne.symm _ _ _ _ _).set.set.set.conv rfl
  · exact (((((((h.HB.setCell (p := ⟨b5, 0, none⟩) h.g5 _).setCell (p := ⟨b5, 1, none⟩) h.g5 _).setCell (p := ⟨b5, 2, none⟩) h.g5 _).setCell (p := ⟨b5, 3, none⟩) h.g5 _).setCell (p := ⟨b5, 4, none⟩) h.g5 _).setCell (p := ⟨b6, 0, none⟩) h.g6 _).setCell (p := ⟨b6, 1, none⟩) h.g6 _).setCell (p := ⟨b6, 2, none⟩) h.g6 _
end Go.Proofs.Ytpnbmfpdoipioaa
