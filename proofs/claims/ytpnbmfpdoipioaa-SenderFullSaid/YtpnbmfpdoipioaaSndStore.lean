/- A sender is stored into a variable of the law's. -/
import Derived.Test.YtpnbmfpdoipioaaSndAwake
namespace Go.Proofs.Ytpnbmfpdoipioaa
open Go.RowKit

theorem list_ne {w : World} {b off b5 : Nat} {l : List SSt} {a : Option Addr} {m c : Nat} {t : ByteArray} {x : Int} (L : ListAt w b off l) (B : Blk w b5 #[fDiff, fSame, .slice a m c, .string t, .int .u64 x] 31) : b ≠ b5 := by
  intro e
  subst e
  have h0 := L.c0 0 L.pos.1
  have h1 := L.c1 0 L.pos.1
  simp only [Nat.zero_mul, Nat.add_zero] at h0 h1
  rw [B.cell] at h0 h1
  match off, h0, h1 with
  | 0, h0, _ => simp at h0
  | 1, h0, _ => simp at h0
  | 2, h0, _ => simp at h0
  | 3, h0, _ => simp at h0
  | 4, _, h1 => simp at h1
  | (n + 5), h0, _ => simp at h0
theorem ListAt.keepB {w w' : World} {b off b5 : Nat} {l : List SSt} (L : ListAt w b off l) (hne : b ≠ b5) (h : ∀ q, q ≠ b5 → w'.heap[q]? = w.heap[q]?) (hs : w'.heap.size = w.heap.size) : ListAt w' b off l := by
  have hc : ∀ o, w'.cell? ⟨b, o, none⟩ = w.cell? ⟨b, o, none⟩ := fun o => World.cell?_of_block (h b hne)
  exact ⟨by rw [hs]; exact L.lt, fun j hj => (hc _).trans (L.c0 j hj), fun j hj => (hc _).trans (L.c1 j hj), fun j hj => (hc _).trans (L.c2 j hj), L.small, L.pos⟩
theorem heap_set5 (w : World) (b : Nat) (v0 v1 v2 v3 v4 : Value) : (∀ q, q ≠ b → (((((w.setCell ⟨b, 0, none⟩ v0).setCell ⟨b, 1, none⟩ v1).setCell ⟨b, 2, none⟩ v2).setCell ⟨b, 3, none⟩ v3).setCell ⟨b, 4, none⟩ v4).heap[q]? = w.heap[q]?) ∧
    (((((w.setCell ⟨b, 0, none⟩ v0).setCell ⟨b, 1, none⟩ v1).setCell ⟨b, 2, none⟩ v2).setCell ⟨b, 3, none⟩ v3).setCell ⟨b, 4, none⟩ v4).heap.size = w.heap.size := by
  refine ⟨fun q hq => ?_, by simp⟩
  simp [World.setCell, Array.getElem?_modify, Ne.symm hq]
/-- .. which holds a sender already. -/
theorem snd_store {w : World} {b5 m0 c0 m c last : Nat} {a0 a : Option Addr} {t now : ByteArray} {x : Int} {l : List SSt} (B : Blk w b5 #[fDiff, fSame, .slice a0 m0 c0, .string t, .int .u64 x] 31) (S : SenderAt w (SV (.slice a m c) now last) l now last) :
    Blk (((((w.setCell ⟨b5, 0, none⟩ fDiff).setCell ⟨b5, 1, none⟩ fSame).setCell ⟨b5, 2, none⟩ (.slice a m c)).setCell ⟨b5, 3, none⟩ (.string now)).setCell ⟨b5, 4, none⟩ (.int .u64 last)) b5 #[fDiff, fSame, .slice a m c, .string now, .int .u64 last] 31 ∧
    SenderAt (((((w.setCell ⟨b5, 0, none⟩ fDiff).setCell ⟨b5, 1, none⟩ fSame).setCell ⟨b5, 2, none⟩ (.slice a m c)).setCell ⟨b5, 3, none⟩ (.string now)).setCell ⟨b5, 4, none⟩ (.int .u64 last)) (SV (.slice a m c) now last) l now last ∧
    (∀ N w0, Below N w0 w → N ≤ b5 → Below N w0 (((((w.setCell ⟨b5, 0, none⟩ fDiff).setCell ⟨b5, 1, none⟩ fSame).setCell ⟨b5, 2, none⟩ (.slice a m c)).setCell ⟨b5, 3, none⟩ (.string now)).setCell ⟨b5, 4, none⟩ (.int .u64 last))) := by
  refine ⟨B.set.set.set.set.set.conv rfl, ?_, fun N w0 HB hN => ((((HB.setCell hN _).setCell hN _).setCell hN _).setCell hN _).setCell hN _⟩
  obtain ⟨b, off, cap, h1, h2, h3, L, h4⟩ := S
  have h := heap_set5 w b5 fDiff fSame (.slice a m c) (.string now) (.int .u64 last)
  exact ⟨b, off, cap, h1, h2, h3, L.keepB (list_ne L B) h.1 h.2, h4⟩
/-- A call behind such a store: of the world no more is kept than what it holds. -/
theorem stored_calls {P : Program} {f : FuncId} {args : Array Value} {post : Ending → World → Prop} {w : World} {b5 m0 c0 m c last : Nat} {a0 a : Option Addr} {t now : ByteArray} {x : Int} {l : List SSt} (B : Blk w b5 #[fDiff, fSame, .slice a0 m0 c0, .string t, .int .u64 x] 31) (S : SenderAt w (SV (.slice a m c) now last) l now last)
    (h : ∀ W, Blk W b5 #[fDiff, fSame, .slice a m c, .string now, .int .u64 last] 31 → SenderAt W (SV (.slice a m c) now last) l now last → (∀ N w0, Below N w0 w → N ≤ b5 → Below N w0 W) → (∀ q, q ≠ b5 → W.heap[q]? = w.heap[q]?) → W.heap.size = w.heap.size → Calls P f args W post) :
    Calls P f args (((((w.setCell ⟨b5, 0, none⟩ fDiff).setCell ⟨b5, 1, none⟩ fSame).setCell ⟨b5, 2, none⟩ (.slice a m c)).setCell ⟨b5, 3, none⟩ (.string now)).setCell ⟨b5, 4, none⟩ (.int .u64 last)) post := by
  obtain ⟨h1, h2, h3⟩ := snd_store B S
  have hh := heap_set5 w b5 fDiff fSame (.slice a m c) (.string now) (.int .u64 last)
  exact h _ h1 h2 h3 hh.1 hh.2
end Go.Proofs.Ytpnbmfpdoipioaa
