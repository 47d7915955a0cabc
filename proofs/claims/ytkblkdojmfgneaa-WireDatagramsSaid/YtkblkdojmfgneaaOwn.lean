/- Rows that a call has made itself. -/
import Derived.Test.YtkblkdojmfgneaaLawKit
import Derived.Test.YtkblkdojmfgneaaStr
import Derived.OwnWalk
import Derived.Maps.AppendAt
import Derived.Deep.AppendLies
import Derived.Deep.OwnRows
import Derived.WalkMore
namespace Go.Proofs.Ytkblkdojmfgneaa
open Go.RowKit

theorem wp_absQ {P : Program} {c : Code} {Q : Exit → Act → World → Prop} {a : Act} {E : World} (Φ : World → Prop) (hΦ : Φ E) (h : ∀ W, Φ W → c.wp P Q a W) : c.wp P Q a E := h _ hΦ
theorem own_slice {w : World} {base : Nat} {e : TypeId} {size : Nat} {v : Value} {m : Nat} {xs : List Value} (h : w.ownsRow base e size v m xs) : ∃ a c, v = .slice a m c := by
  rcases h.2 with ⟨rfl, rfl⟩ | ⟨g, c, _, rfl, _⟩
  · exact ⟨_, _, rfl⟩
  · exact ⟨_, _, rfl⟩
theorem own_below {w w' : World} {base : Nat} {e : TypeId} {size : Nat} {v : Value} {m : Nat} {xs : List Value} (h : w.ownsRow base e size v m xs) (g : Below w.heap.size w w') : w'.ownsRow base e size v m xs :=
  ⟨h.1, by
    rcases h.2 with h5 | ⟨b, c, cur, h5, h6, h7, h8⟩
    · exact Or.inl h5
    · exact Or.inr ⟨b, c, cur, h5, h6, (g.block b (Array.getElem?_eq_some_iff.1 h7).1).trans h7, h8⟩⟩
theorem own_reads {w : World} {base e size n : Nat} {v : Value} {xs : List Value} (h : w.ownsRow base e size v n xs) (hn : 0 < n) : ∃ g c, v = .slice (some ⟨g, 0, none⟩) n c ∧ base ≤ g ∧ g < w.heap.size ∧ (∀ j, j < n * size → w.cell? ⟨g, j, none⟩ = xs[j]?) := by
  rcases h.2 with ⟨_, h2⟩ | ⟨g, c, cur, rfl, h2, h3, h4⟩
  · omega
  · exact ⟨g, _, rfl, h2, (Array.getElem?_eq_some_iff.1 h3).1, fun j hj => World.ownsRow.cellAt h j hj⟩
theorem own_weaken {w : World} {base base' e size n : Nat} {v : Value} {xs : List Value} (h : w.ownsRow base' e size v n xs) (hb : base ≤ base') : w.ownsRow base e size v n xs :=
  ⟨h.1, by
    rcases h.2 with h5 | ⟨b, c, cur, h5, h6, h7, h8⟩
    · exact Or.inl h5
    · exact Or.inr ⟨b, c, cur, h5, Nat.le_trans hb h6, h7, h8⟩⟩
end Go.Proofs.Ytkblkdojmfgneaa
