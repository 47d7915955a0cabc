/- One batch, beside others: what each call does, said of all at once. -/
import Derived.Test.YtkfgbaieghlhkaaBatchT
namespace Go.Proofs.Ytkfgbaieghlhkaa
open Go.RowKit

structure Bt (w0 w : World) (pb B n ever bb base most A0 : Nat) (cs : Array Value) (L : List Buf) (lv vx vo : Value) (es : List Ent) (xs px : List OutE) (os hs : List Nat) : Prop where
  M : MemA w pb B n ever bb base most A0 cs L lv vx vo es xs os
  l : Lg L n es xs px hs
  HB : Below w0.heap.size w0 w
  b1 : w0.heap.size ≤ pb
  b2 : w0.heap.size ≤ B
  b3 : w0.heap.size ≤ bb
  lm : es.length ≤ most
section
variable {w0 w w' : World} {pb B n ever ever' bb base most A0 g cap : Nat} {cs : Array Value} {L L' : List Buf} {lv vx vo lv' vx' vo' : Value} {es es' : List Ent} {xs xs' px py : List OutE} {os os' hs : List Nat} {o : OutE} {O : Obj}
theorem Bt.below (S : Bt w0 w pb B n ever bb base most A0 cs L lv vx vo es xs px os hs) (g : Below w.heap.size w w') : Bt w0 w' pb B n ever bb base most A0 cs L lv vx vo es xs px os hs :=
  ⟨S.M.below g, S.l, Below.thn S.HB g S.HB.size, S.b1, S.b2, S.b3, S.lm⟩
theorem Bt.grewX (S : Bt w0 w pb B n ever bb base most A0 cs L lv vx vo es xs [o] os hs)
    (ho : w'.ownsRow base 54 3 (.slice (some ⟨g, 0, none⟩) (xs.length + 1) cap) (xs.length + 1) (outRow xs ++ [.int .u32 o.h, .int .u16 o.p, .string o.s])) (hg : (w.alloc O).grownBy w' vx.ownBlock) (hl : vx.ownBlock = some g ∨ g = w.heap.size + 1) :
    Bt w0 w' pb B n ever bb base most A0 cs L lv (.slice (some ⟨g, 0, none⟩) (xs.length + 1) cap) vo es (xs ++ [o]) [] os hs := by
  have hs := S.HB.size
  have o1 := S.M.M.o1
  have b1 := S.b1
  have hsz : (w.alloc O).heap.size = w.heap.size + 1 := by simp
  have hb : Below w0.heap.size w w' := ((Below.refl _ _).alloc hs O).grown hg (by rw [hsz]; omega) (fun q hq => by have := own_ge S.M.M.X q hq; omega)
  refine ⟨S.M.growX hb.size (fun k hk e => (hg.block k (by rw [hsz]; omega) e).trans (Below.heap_alloc w O k hk)) ?_ ?_, ⟨S.l.G, by simpa using S.l.E, S.l.T⟩, S.HB.trans hb, S.b1, S.b2, S.b3, S.lm⟩
  · rw [outRow_snoc, List.length_append]; exact ho
  · rcases hl with h | h
    · exact Or.inl h.symm
    · exact Or.inr ⟨g, rfl, by omega⟩
theorem Bt.grewZ {q : Nat} (S : Bt w0 w pb B n ever bb base most A0 cs L lv vx vo es xs px os (os ++ [q]))
    (ho : w'.ownsRow base 3 1 (.slice (some ⟨g, 0, none⟩) (os.length + 1) cap) (os.length + 1) (nums os ++ [.int .i64 (q : Int)])) (hg : (w.alloc O).grownBy w' vo.ownBlock) (hl : vo.ownBlock = some g ∨ g = w.heap.size + 1) :
    Bt w0 w' pb B n ever bb base most A0 cs L lv vx (.slice (some ⟨g, 0, none⟩) (os.length + 1) cap) es xs px (os ++ [q]) (os ++ [q]) := by
  have hs := S.HB.size
  have o1 := S.M.M.o1
  have b1 := S.b1
  have hsz : (w.alloc O).heap.size = w.heap.size + 1 := by simp
  have hb : Below w0.heap.size w w' := ((Below.refl _ _).alloc hs O).grown hg (by rw [hsz]; omega) (fun q hq => by have := own_ge S.M.Z q hq; omega)
  refine ⟨S.M.growZ hb.size (fun k hk e => (hg.block k (by rw [hsz]; omega) e).trans (Below.heap_alloc w O k hk)) ?_ ?_, S.l, S.HB.trans hb, S.b1, S.b2, S.b3, S.lm⟩
  · rw [nums_snoc, List.length_append]; exact ho
  · rcases hl with h | h
    · exact Or.inl h.symm
    · exact Or.inr ⟨g, rfl, by omega⟩
end
section
variable (w0 w : World) (pb B n ever bb base most A0 : Nat) (cs : Array Value) (L : List Buf) (lv vx vo : Value) (es : List Ent) (xs px : List OutE) (os hs : List Nat) (S : Bt w0 w pb B n ever bb base most A0 cs L lv vx vo es xs px os hs)
include S
theorem bt_take_none (hf : es.length + hs.length = n) : Calls Try.prog 12 #[.pointer (some ⟨pb, 0, none⟩), .string ⟨#[111, 116, 104, 101, 114]⟩] w fun e w' => e = .returned (.tuple #[.int .i64 0, .int .i64 13]) ∧ Below w.heap.size w w' := by
  rcases S.l.G.first S.M.M.P.len with ⟨_, h2⟩ | ⟨h1, _⟩
  · exact get_none pb B n ever L _ w S.M.M.P (by decide) h2
  · rw [List.length_append, List.length_map] at h1; omega
theorem bt_take_ok (hf : es.length + hs.length < n) (he : ever ≤ 1000000) : Calls Try.prog 12 #[.pointer (some ⟨pb, 0, none⟩), .string ⟨#[111, 116, 104, 101, 114]⟩] w fun e w' =>
    ∃ (q : Nat) (L' : List Buf), e = .returned (.tuple #[.int .i64 q, .int .i64 0]) ∧ Bt w0 w' pb B n (ever + 1) bb base most A0 cs L' lv vx vo es xs px os (hs ++ [q]) := by
  rcases S.l.G.first S.M.M.P.len with ⟨h1, _⟩ | ⟨_, q, hq, hall, hat⟩
  · rw [List.length_append, List.length_map] at h1; omega
  refine (get_some pb B n ever q L other w S.M.M.P (by decide) hq hall hat he).mono ?_
  rintro e w' ⟨rfl, T, P⟩
  exact ⟨q, L.set q ⟨true, other⟩, rfl, S.M.pool T P, S.l.take S.M.M.P.len q hq hat, S.M.thnT T S.HB (Nat.le_refl _) S.b1 S.b2, S.b1, S.b2, S.b3, S.lm⟩
theorem bt_free : Calls Try.prog 13 #[.pointer (some ⟨pb, 0, none⟩)] w fun e w' => e = .returned (.int .i64 ((n - (es.length + hs.length) : Nat) : Int)) ∧ Below w.heap.size w w' := by
  refine (freeN_any pb B n ever L w S.M.M.P).mono ?_
  rintro e w' ⟨rfl, hb⟩
  rw [S.l.cnt.2]
  exact ⟨rfl, hb⟩
theorem bt_add_err (h p : Int) (s : ByteArray) (hm1 : most ≤ 64) (hne : addR es.length most (n - (es.length + hs.length)) s.size ≠ 0) :
    Calls Try.prog 22 #[.pointer (some ⟨bb, 0, none⟩), .agg #[.int .u32 h, .int .u16 p], .string s] w fun e w' => e = .returned (.int .i64 (addR es.length most (n - (es.length + hs.length)) s.size)) ∧ Below w.heap.size w w' := by
  have hc := S.l.cnt.1
  unfold addR at *
  by_cases c1 : most ≤ es.length
  · rw [if_pos c1]; exact add_full bb pb most base lv es h p _ w S.M.M.A c1
  rw [if_neg c1] at hne ⊢
  by_cases c2 : 512 < s.size
  · rw [if_pos c2]; exact add_long bb pb most base lv es h p s w S.M.M.A (by omega) c2
  rw [if_neg c2] at hne ⊢
  by_cases c3 : n - (es.length + hs.length) = 0
  · rw [if_pos c3]
    rcases S.l.G.first S.M.M.P.len with ⟨_, h2⟩ | ⟨h1, _⟩
    · exact add_none pb B bb most base n ever lv es L h p s w S.M.M.P S.M.M.A (by omega) (by omega) h2
    · rw [List.length_append, List.length_map] at h1; omega
  · rw [if_neg c3] at hne; exact absurd rfl hne
end
theorem bt_add_ok (w0 w : World) (pb B n ever bb base most A0 : Nat) (cs : Array Value) (L : List Buf) (lv vx vo : Value) (es : List Ent) (xs : List OutE) (os hs : List Nat) (S : Bt w0 w pb B n ever bb base most A0 cs L lv vx vo es xs [] os hs)
    (h p : Int) (s : ByteArray) (hm1 : most ≤ 64) (hz : addR es.length most (n - (es.length + hs.length)) s.size = 0) (he : ever ≤ 1000000) :
    Calls Try.prog 22 #[.pointer (some ⟨bb, 0, none⟩), .agg #[.int .u32 h, .int .u16 p], .string s] w fun e w' => e = .returned (.int .i64 0) ∧
      ∃ (L' : List Buf) (lv' : Value) (x : Ent), Bt w0 w' pb B n (ever + 1) bb base most A0 cs L' lv' vx vo (es ++ [x]) xs [⟨h, p, s⟩] os hs := by
  have hc := S.l.cnt.1
  unfold addR at hz
  by_cases c1 : most ≤ es.length
  · rw [if_pos c1] at hz; omega
  rw [if_neg c1] at hz
  by_cases c2 : 512 < s.size
  · rw [if_pos c2] at hz; omega
  rw [if_neg c2] at hz
  by_cases c3 : n - (es.length + hs.length) = 0
  · rw [if_pos c3] at hz; omega
  rcases S.l.G.first S.M.M.P.len with ⟨h1, _⟩ | ⟨_, q, hq, hall, hat⟩
  · rw [List.length_append, List.length_map] at h1; omega
  have M := S.M.M
  refine (add_ok pb B bb most base n ever q lv es L h p s w M.P M.A M.o1 M.o2 M.o3 M.o5 M.n1 M.n2 (by omega) hm1 (by omega) hq hall hat he).mono ?_
  rintro e w' ⟨rfl, lv', P, A, T, hl⟩
  exact ⟨rfl, L.set q ⟨true, s⟩, lv', ⟨h, p, q⟩, S.M.turn T (Or.inl rfl) P A (Or.inr hl), S.l.add M.P.len q hq hat h p s, S.M.thnB T (Or.inl rfl) S.HB (Nat.le_refl _) S.b1 S.b2 S.b3, S.b1, S.b2, S.b3, by rw [List.length_append]; simp; omega⟩
theorem bt_flush (w0 w : World) (pb B n ever bb base most A0 : Nat) (cs : Array Value) (L : List Buf) (lv vx vo : Value) (es : List Ent) (xs : List OutE) (os hs : List Nat) (S : Bt w0 w pb B n ever bb base most A0 cs L lv vx vo es xs [] os hs) (hm1 : most ≤ 64) :
    Calls Try.prog 23 #[.pointer (some ⟨bb, 0, none⟩)] w fun e w' => ∃ v, e = .returned v ∧ w'.ownsRow w.heap.size 54 3 v xs.length (outRow xs) ∧ w'.ownsRow base 54 3 vx xs.length (outRow xs) ∧
      ∃ L', Bt w0 w' pb B n ever bb base most A0 cs L' (.slice none 0 0) (.slice none 0 0) vo [] [] [] os hs := by
  have M := S.M.M
  have lm := S.lm
  have E1 : xs = outsOf L es := (List.append_nil xs) ▸ S.l.E
  have hlen : xs.length = es.length := by rw [E1, outsOf_length]
  refine (flush_any pb B bb most base n ever lv es L w M.P M.A M.o1 M.o2 M.o3 M.n1 M.n2 (by omega) S.l.G.left.1 S.l.G.left.2).mono ?_
  rintro e w' ⟨v, rfl, ho, P, A, T⟩
  rw [outCells_eq, ← E1, ← hlen] at ho
  have MA := S.M.turn T (Or.inr rfl) P A (Or.inl rfl)
  exact ⟨v, rfl, ho, MA.M.X, freeAll L es, MA.nilX, S.l.flush M.P.len, S.M.thnB T (Or.inr rfl) S.HB (Nat.le_refl _) S.b1 S.b2 S.b3, S.b1, S.b2, S.b3, Nat.zero_le _⟩
theorem bt_read (w0 w : World) (pb B n ever bb base most A0 q : Nat) (cs : Array Value) (L : List Buf) (lv vx vo : Value) (es : List Ent) (xs px : List OutE) (os hs : List Nat) (S : Bt w0 w pb B n ever bb base most A0 cs L lv vx vo es xs px os (q :: hs)) :
    Calls Try.prog 15 #[.pointer (some ⟨pb, 0, none⟩), .int .i64 q] w fun e w' => e = .returned (.tuple #[.string ⟨#[111, 116, 104, 101, 114]⟩, .int .i64 0]) ∧ Below w.heap.size w w' :=
  read_ok pb B n ever q L other w S.M.M.P S.l.held.1 S.l.held.2.1 S.l.held.2.2
theorem bt_put (w0 w : World) (pb B n ever bb base most A0 q : Nat) (cs : Array Value) (L : List Buf) (lv vx vo : Value) (es : List Ent) (xs px : List OutE) (os hs : List Nat) (S : Bt w0 w pb B n ever bb base most A0 cs L lv vx vo es xs px os (q :: hs)) :
    Calls Try.prog 14 #[.pointer (some ⟨pb, 0, none⟩), .int .i64 q] w fun e w' => e = .returned (.int .i64 0) ∧ ∃ L', Bt w0 w' pb B n ever bb base most A0 cs L' lv vx vo es xs px os hs := by
  refine (put_ok pb B n ever q L w S.M.M.P S.l.held.1 S.l.held.2.1).mono ?_
  rintro e w' ⟨rfl, T, P⟩
  exact ⟨rfl, _, S.M.pool T P, S.l.give S.M.M.P.len, S.M.thnT T S.HB (Nat.le_refl _) S.b1 S.b2, S.b1, S.b2, S.b3, S.lm⟩
end Go.Proofs.Ytkfgbaieghlhkaa
