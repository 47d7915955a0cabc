/- PoolTurns: one turn. -/
import Derived.Test.YtkfgbaieghlhkaaPoolRef
import Derived.Test.YtkfgbaieghlhkaaPoolOwnersW
namespace Go.Proofs.Ytkfgbaieghlhkaa
open Go.RowKit

/-- What a turn finds: the pool, the document's pool, the turn's own variable. -/
structure St (w W : World) (pb B rb A n : Nat) (l r : List Buf) (ev : Nat) (cs : Array Value) : Prop where
  P : PoolAt W pb B n l ev
  R : RefAt W rb n r
  BA : Blk W A cs 60
  HB : Below w.heap.size w W
  ne : rb ≠ pb ∧ rb ≠ B ∧ A ≠ pb ∧ A ≠ B ∧ A ≠ rb ∧ w.heap.size ≤ pb ∧ w.heap.size ≤ B ∧ w.heap.size ≤ rb
section
variable {w W W' : World} {pb B rb A n ev ev' : Nat} {l l' r r' : List Buf} {cs : Array Value}
theorem St.below (h : St w W pb B rb A n l r ev cs) (g : Below W.heap.size W W') : St w W' pb B rb A n l r ev cs :=
  ⟨h.P.below g, h.R.below g, h.BA.below g, Below.thn h.HB g h.HB.size, h.ne⟩
theorem St.turn (h : St w W pb B rb A n l r ev cs) (T : Turn pb B W W') (P : PoolAt W' pb B n l' ev') : St w W' pb B rb A n l' r ev' cs :=
  ⟨P, h.R.turn T h.ne.1 h.ne.2.1, T.blk h.BA h.ne.2.2.1 h.ne.2.2.2.1, h.HB.trans (T.below h.HB.size h.ne.2.2.2.2.2.1 h.ne.2.2.2.2.2.2.1), h.ne⟩
theorem St.sets (h : St w W pb B rb A n l r ev cs) (o : Nat) (v : Value) (R : RefAt (W.setCell ⟨rb, o, none⟩ v) rb n r') : St w (W.setCell ⟨rb, o, none⟩ v) pb B rb A n l r' ev cs :=
  ⟨h.P.other (Ne.symm h.ne.1) (Ne.symm h.ne.2.1), R, h.BA.set_ne h.ne.2.2.2.2.1, h.HB.setCell (p := ⟨rb, o, none⟩) h.ne.2.2.2.2.2.2.2 _, h.ne⟩
end

theorem ref_row (l : List Buf) (i n : Nat) (hi : i < n) (hl : l.length = n) (x : Buf) (o : Nat) :
    (if o = i * 2 + 1 then Value.string x.text else if o = i * 2 then Value.bool x.held else refF l o) = refF (l.set i x) o := by
  unfold refF
  by_cases h1 : o = i * 2 + 1
  · rw [if_pos h1, if_neg (by omega), show o / 2 = i by omega, getD_set_self _ _ _ (by omega)]
  rw [if_neg h1]
  by_cases h2 : o = i * 2
  · rw [if_pos h2, if_pos (by omega), show o / 2 = i by omega, getD_set_self _ _ _ (by omega)]
  · rw [if_neg h2, getD_set_other _ _ _ _ (by omega)]
theorem ref_text (l : List Buf) (i n : Nat) (hi : i < n) (hl : l.length = n) (hh : (l.getD i default).held = true) (s : ByteArray) (o : Nat) :
    (if o = i * 2 + 1 then Value.string s else refF l o) = refF (l.set i ⟨true, s⟩) o := by
  rw [← ref_row l i n hi hl ⟨true, s⟩ o]
  by_cases h1 : o = i * 2 + 1
  · rw [if_pos h1, if_pos h1]
  rw [if_neg h1, if_neg h1]
  by_cases h2 : o = i * 2
  · rw [if_pos h2, refF, if_pos (by omega), show o / 2 = i by omega, hh]
  · rw [if_neg h2]
theorem St.sets2 {w W : World} {pb B rb A n ev : Nat} {l r r' : List Buf} {cs : Array Value} (h : St w W pb B rb A n l r ev cs) (o o' : Nat) (v v' : Value) (R : RefAt ((W.setCell ⟨rb, o, none⟩ v).setCell ⟨rb, o', none⟩ v') rb n r') :
    St w ((W.setCell ⟨rb, o, none⟩ v).setCell ⟨rb, o', none⟩ v') pb B rb A n l r' ev cs :=
  ⟨(h.P.other (Ne.symm h.ne.1) (Ne.symm h.ne.2.1)).other (Ne.symm h.ne.1) (Ne.symm h.ne.2.1), R, (h.BA.set_ne h.ne.2.2.2.2.1).set_ne h.ne.2.2.2.2.1, (h.HB.setCell (p := ⟨rb, o, none⟩) h.ne.2.2.2.2.2.2.2 _).setCell (p := ⟨rb, o', none⟩) h.ne.2.2.2.2.2.2.2 _, h.ne⟩
theorem own_cases (l : List Buf) (n : Nat) (i : Int) : (∃ q : Nat, i = q ∧ q < n ∧ (l.getD q default).held = true) ∨ (i < 0 ∨ n ≤ i ∨ ∃ k : Nat, i = k ∧ k < n ∧ (l.getD k default).held = false) := by
  by_cases h0 : i < 0
  · exact Or.inr (Or.inl h0)
  by_cases h1 : n ≤ i
  · exact Or.inr (Or.inr (Or.inl h1))
  have h2 : i.toNat < n := by omega
  have h3 : i = (i.toNat : Int) := by omega
  cases hh : (l.getD i.toNat default).held with
  | true => exact Or.inl ⟨_, h3, h2, hh⟩
  | false => exact Or.inr (Or.inr (Or.inr ⟨_, h3, h2, hh⟩))
theorem first_free (l : List Buf) : ∀ n, ∃ q, q ≤ n ∧ (∀ j, j < q → (l.getD j default).held = true) ∧ (q < n → (l.getD q default).held = false)
  | 0 => ⟨0, Nat.le_refl _, fun j hj => by omega, fun h => by omega⟩
  | n + 1 => by
    obtain ⟨q, hq, hall, hat⟩ := first_free l n
    by_cases h : q < n
    · exact ⟨q, by omega, hall, fun _ => hat h⟩
    · have : q = n := by omega
      subst this
      cases hh : (l.getD q default).held with
      | false => exact ⟨q, by omega, hall, fun _ => hh⟩
      | true => exact ⟨q + 1, Nat.le_refl _, fun j hj => by
          by_cases e : j = q
          · subst e; exact hh
          · exact hall j (by omega), fun h => by omega⟩
theorem rget_none (rb n : Nat) (l : List Buf) (s : ByteArray) (w : World) (h : RefAt w rb n l) (hn : n ≤ 256) (hs : s.size ≤ 512) (hall : ∀ j, j < n → (l.getD j default).held = true) :
    Calls Try.prog 28 #[.slice (some ⟨rb, 0, none⟩) n n, .string s] w fun e w' => e = .returned (.tuple #[.int .i64 0, .int .i64 13]) ∧ Below w.heap.size w w' := by
  have := rget_any rb n n l s w h hn hs (Nat.le_refl _) hall (fun h => by omega)
  rwa [if_neg (by omega), if_neg (by omega)] at this
theorem rget_some (rb n i : Nat) (l : List Buf) (s : ByteArray) (w : World) (h : RefAt w rb n l) (hn : n ≤ 256) (hs : s.size ≤ 512) (hi : i < n) (hall : ∀ j, j < i → (l.getD j default).held = true) (hat : (l.getD i default).held = false) :
    Calls Try.prog 28 #[.slice (some ⟨rb, 0, none⟩) n n, .string s] w fun e w' => e = .returned (.tuple #[.int .i64 i, .int .i64 0]) ∧ Below w.heap.size w w' := by
  have := rget_any rb n i l s w h hn hs (by omega) hall (fun _ => hat)
  rwa [if_pos hi, if_pos hi] at this
end Go.Proofs.Ytkfgbaieghlhkaa
