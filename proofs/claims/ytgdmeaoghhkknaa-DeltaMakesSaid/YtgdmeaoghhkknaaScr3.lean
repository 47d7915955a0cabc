/- Package screen: Rows. -/
import Derived.Test.YtgdmeaoghhkknaaScr1
import Derived.OwnWalk
import Derived.Maps.AppendAt
import Derived.Deep.AppendLies
import Derived.Deep.OwnRows
namespace Go.Proofs.Ytgdmeaoghhkknaa
open Go.RowKit

def strs (l : List ByteArray) : List Value := l.map Value.string
theorem strs_snoc (l : List ByteArray) (s : ByteArray) : strs (l ++ [s]) = strs l ++ [.string s] := by simp [strs]
theorem info9 : (Try.prog.info? 9).map (fun i => (i.zero, i.size, i.bytes)) = some (some (.string ⟨#[]⟩), 1, 16) := by kernel_rfl
theorem own_slice {w : World} {base : Nat} {e : TypeId} {size : Nat} {v : Value} {m : Nat} {xs : List Value} (h : w.ownsRow base e size v m xs) : ∃ a c, v = .slice a m c := by
  rcases h.2 with ⟨rfl, rfl⟩ | ⟨g, c, _, rfl, _⟩
  · exact ⟨_, _, rfl⟩
  · exact ⟨_, _, rfl⟩
theorem own_below {w w' : World} {base : Nat} {e : TypeId} {size : Nat} {v : Value} {m : Nat} {xs : List Value} (h : w.ownsRow base e size v m xs) (g : Below w.heap.size w w') : w'.ownsRow base e size v m xs :=
  ⟨h.1, by
    rcases h.2 with h5 | ⟨b, c, cur, h5, h6, h7, h8⟩
    · exact Or.inl h5
    · exact Or.inr ⟨b, c, cur, h5, h6, (g.block b (Array.getElem?_eq_some_iff.1 h7).1).trans h7, h8⟩⟩
theorem own_reads {w : World} {base e size n : Nat} {v : Value} {xs : List Value} (h : w.ownsRow base e size v n xs) (hn : 0 < n) : ∃ g c, v = .slice (some ⟨g, 0, none⟩) n c ∧ base ≤ g ∧ g < w.heap.size ∧ (∀ j, j < n * size → w.cell? ⟨g, j, none⟩ = xs[j]?) := by
  rcases h.2 with ⟨_, h2⟩ | ⟨g, c, cur, rfl, h2, h3, h4⟩
  · omega
  · exact ⟨g, _, rfl, h2, (Array.getElem?_eq_some_iff.1 h3).1, fun j hj => World.ownsRow.cellAt h j hj⟩
theorem own_weaken {w : World} {base base' e size n : Nat} {v : Value} {xs : List Value} (h : w.ownsRow base' e size v n xs) (hb : base ≤ base') : w.ownsRow base e size v n xs :=
  ⟨h.1, by
    rcases h.2 with h5 | ⟨b, c, cur, h5, h6, h7, h8⟩
    · exact Or.inl h5
    · exact Or.inr ⟨b, c, cur, h5, Nat.le_trans hb h6, h7, h8⟩⟩
/-- A screen's rows, the first so many. -/
def rowsL (t : ByteArray) (cw j : Nat) : List ByteArray := (List.range j).map fun y => t.extract (y * cw) ((y + 1) * cw)
theorem rowsL_succ (t : ByteArray) (cw j : Nat) : rowsL t cw (j + 1) = rowsL t cw j ++ [t.extract (j * cw) ((j + 1) * cw)] := by
  unfold rowsL; rw [List.range_succ, List.map_append]; rfl
def RowsPost (t : ByteArray) (cw ch : Nat) (w : World) (e : Ending) (w' : World) : Prop := ∃ v, e = .returned v ∧ w'.ownsRow w.heap.size 9 1 v ch (strs (rowsL t cw ch)) ∧ Below w.heap.size w w'
set_option maxHeartbeats 4000000 in
set_option maxRecDepth 20000 in
theorem rows_any (cw ch : Nat) (x y : Int) (t : ByteArray) (w : World) (ht : t.size = cw * ch) (w2 : cw ≤ 80) (h2 : ch ≤ 24) :
    Calls Try.prog 17 #[VV cw ch x y t] w fun e w' => RowsPost t cw ch w e w' := by
  obtain ⟨i0, hi0, hz0, hz1, hz2⟩ := info_parts info9
  have HT := Lib.hid ht
  clear ht
  go_enter Try.func17, Try.ntmps17
  go_wp2_with fail
  refine wp_abs1 (n := w.heap.size) (w := w) w.heap.size 24 (by (repeat (first | (with_reducible assumption) | (with_reducible exact Below.refl _ _) | with_reducible apply bl_drewN | with_reducible apply Below.drew | (with_reducible apply bl_alloc; focus (first | (simp; done) | (simp; omega) | omega)) | (with_reducible apply bl_set; focus (first | (simp; done) | (simp; omega) | omega))))) (by (repeat (first | (with_reducible assumption) | (with_reducible apply Blk.new'; (first | (with_reducible rfl) | (simp; done))) | with_reducible apply Blk.alloc | with_reducible apply Blk.set | ((with_reducible apply Blk.set_ne); focus (first | (simp; done) | (simp; omega))) | with_reducible apply Blk.drewN | with_reducible apply Blk.drew))) (fun W1 HB1 B1 => ?_)
  have HB1s := HB1.size
  have B1l := B1.lt
  go_loopg [3, 7] ch (fun g t3 t7 wr => ∃ k : Nat, t7 = .int .i64 k ∧ k + g = ch ∧ wr.ownsRow W1.heap.size 9 1 t3 k (strs (rowsL t cw k)) ∧ Below W1.heap.size W1 wr)
  case atStart => exact ⟨0, rfl, by omega, World.ownsRow_nil _ _ _ _, Below.refl _ _⟩
  case round =>
    obtain ⟨k, rfl, hk, ho, HB⟩ := hrel
    have B := B1.below HB
    have HBs := HB.size
    have HK := Lib.hid hk
    obtain ⟨a3, c3, h3⟩ := own_slice ho
    subst h3
    cases gk with
    | zero =>
      have hk' : ¬ (k : Int) < ch := by omega
      have hke : k = ch := by omega
      clear hk
      subst hke
      go_wp2
      go_ret
      exact ⟨_, rfl, own_weaken ho HB1s, Below.thn HB1 HB HB1s⟩
    | succ g =>
      have hk' : (k : Int) < ch := by omega
      have hkl : k < ch := by omega
      clear hk
      obtain ⟨m, hm⟩ : ∃ m, k * cw = m := ⟨_, rfl⟩
      obtain ⟨m2, hm2⟩ : ∃ m, (k + 1) * cw = m := ⟨_, rfl⟩
      have hmul : (k : Int) * (cw : Int) = (m : Int) := by rw [← hm]; simp
      have hmul2 : ((k : Int) + 1) * (cw : Int) = (m2 : Int) := by rw [← hm2]; simp
      have hmm : m + cw = m2 := by rw [← hm, ← hm2, Nat.succ_mul]
      have hm2t : m2 ≤ t.size := by rw [HT.out, ← hm2, Nat.mul_comm cw]; exact Nat.mul_le_mul_right _ hkl
      have hm2b : m2 ≤ 1920 := by
        have := hm2t; rw [HT.out] at this; exact Nat.le_trans this (Nat.mul_le_mul w2 h2)
      have hmi : (m : Int) ≤ m2 := by omega
      have hm2i : (m2 : Int) ≤ t.size := by omega
      have hrow : strs (rowsL t cw (k + 1)) = strs (rowsL t cw k) ++ [.string (t.extract m m2)] := by rw [rowsL_succ, strs_snoc, hm, hm2]
      have HR := Lib.hid hrow
      have Bc := B.cell; have Bl := B.lt
      have HM := Lib.hid hmm
      clear hm hm2 hmm hm2t hrow
      have o2 := ho.alloc (.cells #[.string (t.extract m m2)] 9)
      go_wp2_with (at_builtin; refine wpList_append_lies _ rfl _ _ 36 rfl W1.heap.size 9 i0 _ 1 16 Try.underlying36 hi0 hz0 hz1 hz2 rfl (by decide) _ k (strs (rowsL t cw k)) rfl o2 ⟨wr.heap.size, 0, none⟩ 1 1 [.string (t.extract m m2)] rfl rfl (World.news_of_block (heap_alloc_new wr _)) (by simp [Value.oneCell']) (by decide) ?c3 ?c4 ?c5 (wr.heap.size + 1) (by simp) ?_)
      case c3 => unfold maxLen; omega
      case c4 => omega
      case c5 => first | omega | (simp; omega)
      intro gg cc w' ho' hg hl hlt
      have hb : Below W1.heap.size W1 w' := (HB.alloc HBs _).grown hg (by simp; omega) (fun q hq => (ho.lt q hq).1)
      clear o2 hg hl hlt
      rw [← HR.out] at ho'
      go_wp2_with fail
      go_roundg g
      case rel => exact ⟨k + 1, by simp, by have := HK.out; omega, ho', hb⟩
      case measure => omega
end Go.Proofs.Ytgdmeaoghhkknaa
