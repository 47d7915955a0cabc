/- Clone, Numbers, New, Rule, Set. -/
import Derived.Test.YtpnbmfpdoipioaaSnd2
namespace Go.Proofs.Ytpnbmfpdoipioaa
open Go.RowKit

def sCells (l : List SSt) : List Value := l.flatMap fun s => [Value.int .u64 s.num, .int .u64 s.sent, .string s.val]
theorem sCells_length (l : List SSt) : (sCells l).length = l.length * 3 := by
  induction l with
  | nil => rfl
  | cons a l ih => simp only [sCells, List.flatMap_cons, List.length_append, List.length_cons, List.length_nil] at ih ⊢; omega
theorem sCells_snoc (l : List SSt) (s : SSt) : sCells (l ++ [s]) = sCells l ++ [Value.int .u64 s.num, .int .u64 s.sent, .string s.val] := by simp [sCells]
theorem sCells_get (es : List SSt) (k : Nat) (hk : k < es.length) : (sCells es)[k * 3]? = some (.int .u64 (es.getD k default).num) ∧ (sCells es)[k * 3 + 1]? = some (.int .u64 (es.getD k default).sent) ∧ (sCells es)[k * 3 + 2]? = some (.string (es.getD k default).val) := by
  induction es generalizing k with
  | nil => simp at hk
  | cons e es ih =>
    cases k with
    | zero => exact ⟨rfl, rfl, rfl⟩
    | succ k =>
      have := ih k (by simpa using hk)
      have e1 : sCells (e :: es) = [Value.int .u64 e.num, .int .u64 e.sent, .string e.val] ++ sCells es := rfl
      rw [e1, show (k + 1) * 3 = k * 3 + 3 by omega]
      rw [List.getElem?_append_right (by simp), List.getElem?_append_right (by simp), List.getElem?_append_right (by simp)]
      exact this
theorem sCells_one (l : List SSt) : ∀ u ∈ sCells l, u.oneCell' = true := by
  intro u hu
  obtain ⟨s, _, h⟩ := List.mem_flatMap.1 hu
  simp at h
  rcases h with rfl | rfl | rfl <;> rfl
def SmallL (l : List SSt) : Prop := ∀ j, j < l.length → (l.getD j default).num ≤ 1000000 ∧ (l.getD j default).sent ≤ 18446744073709551615 ∧ (l.getD j default).val.size ≤ 1000
theorem own_reads {w : World} {base e size n : Nat} {v : Value} {xs : List Value} (h : w.ownsRow base e size v n xs) (hn : 0 < n) : ∃ g c, v = .slice (some ⟨g, 0, none⟩) n c ∧ base ≤ g ∧ g < w.heap.size ∧ (∀ j, j < n * size → w.cell? ⟨g, j, none⟩ = xs[j]?) := by
  rcases h.2 with ⟨h1, h2⟩ | ⟨g, cap, cur, h1, h2, h3⟩
  · omega
  · subst h1
    exact ⟨g, _, rfl, h2, (Array.getElem?_eq_some_iff.1 h3.1).1, fun j hj => World.ownsRow.cellAt h j hj⟩
theorem list_of_own {w : World} {base : Nat} {v : Value} {l : List SSt} (h : w.ownsRow base 70 3 v l.length (sCells l)) (hp : 0 < l.length ∧ l.length ≤ 8) (hs : SmallL l) : ∃ g c, v = .slice (some ⟨g, 0, none⟩) l.length c ∧ base ≤ g ∧ ListAt w g 0 l := by
  obtain ⟨g, c, rfl, hg, hgl, hc⟩ := own_reads h hp.1
  refine ⟨g, c, rfl, hg, hgl, fun j hj => ?_, fun j hj => ?_, fun j hj => ?_, hs, hp⟩
  · rw [Nat.zero_add]; exact (hc _ (by omega)).trans (sCells_get l j hj).1
  · rw [Nat.zero_add]; exact (hc _ (by omega)).trans (sCells_get l j hj).2.1
  · rw [Nat.zero_add]; exact (hc _ (by omega)).trans (sCells_get l j hj).2.2
theorem ListAt.news {w : World} {b off : Nat} {l : List SSt} (L : ListAt w b off l) : ∀ j u, (sCells l)[j]? = some u → w.cell? ((⟨b, off, none⟩ : Addr).add j) = some u := by
  intro j u hu
  have hj : j < l.length * 3 := by rw [← sCells_length]; exact (List.getElem?_eq_some_iff.1 hu).1
  have hadd : (⟨b, off, none⟩ : Addr).add j = ⟨b, off + j, none⟩ := by unfold Addr.add; split <;> simp_all
  rw [hadd]
  obtain ⟨k, hk, h⟩ : ∃ k, k < l.length ∧ (j = k * 3 ∨ j = k * 3 + 1 ∨ j = k * 3 + 2) := ⟨j / 3, by omega, by omega⟩
  have hg := sCells_get l k hk
  rcases h with rfl | rfl | rfl
  · rw [hg.1] at hu; exact (L.c0 _ hk).trans hu
  · rw [hg.2.1] at hu; exact (L.c1 _ hk).trans hu
  · rw [hg.2.2] at hu; exact (L.c2 _ hk).trans hu
theorem info70 : (Try.prog.info? 70).map (fun i => (i.zero, i.size, i.bytes)) = some (some (.agg #[.int .u64 0, .int .u64 0, .string ⟨#[]⟩]), 3, 32) := by kernel_rfl
theorem info29 : (Try.prog.info? 29).map (fun i => (i.zero, i.size, i.bytes)) = some (some (.int .u64 0), 1, 8) := by kernel_rfl

def ClonePost (l : List SSt) (w : World) (e : Ending) (w' : World) : Prop := ∃ v, e = .returned v ∧ w'.ownsRow w.heap.size 70 3 v l.length (sCells l) ∧ Below w.heap.size w w'
set_option maxHeartbeats 1000000 in
set_option maxRecDepth 20000 in
theorem clone_any (b off cap : Nat) (l : List SSt) (w : World) (L : ListAt w b off l) :
    Calls Try.prog 32 #[.slice (some ⟨b, off, none⟩) l.length cap] w fun e w' => ClonePost l w e w' := by
  obtain ⟨i0, hi0, hz0, hz1, hz2⟩ := info_parts info70
  have hp := L.pos
  have own0 : (w.alloc (.cells #[] 70)).ownsRow w.heap.size 70 3 (.slice (some ⟨w.heap.size, 0, none⟩) 0 0) 0 [] :=
    ⟨rfl, Or.inr ⟨w.heap.size, 0, #[], rfl, Nat.le_refl _, heap_alloc_new w _, Nat.le_refl _, Nat.zero_le _, rfl, rfl⟩⟩
  have hnews := (L.below (Below.alloc (Below.refl w.heap.size w) (Nat.le_refl _) (.cells #[] 70))).news
  have hlen := sCells_length l
  have hone := sCells_one l
  have hnil : ∀ W, (binOp .eql 28 (.slice (some ⟨b, off, none⟩) l.length cap) (.slice none 0 0)).run Try.prog W = .ok (.bool false) W := fun W => by first | exact Lib.run_eql_slice_some_nil W _ _ _ Try.underlying28 | kernel_rfl
  clear L
  go_enter Try.func32, Try.ntmps32
  go_wp2_with (at_builtin; refine wpList_append_lies _ rfl _ _ 28 rfl w.heap.size 70 i0 _ 3 32 Try.underlying28 hi0 hz0 hz1 hz2 rfl (by decide) _ 0 [] rfl own0 ⟨b, off, none⟩ l.length cap (sCells l) rfl hlen hnews hone hp.1 ?c3 ?c4 ?c5 (w.heap.size + 1) ?c6 ?_)
  case c3 => unfold maxLen; omega
  case c4 => omega
  case c5 => simp
  case c6 => simp
  intro g c w' ho hg hl hlt
  have hb : Below w.heap.size w w' := ((Below.refl _ _).alloc (Nat.le_refl _) _).grown hg (by simp) (fun q hq => by cases hq; exact Nat.le_refl _)
  go_wp2
  go_ret
  exact ⟨_, rfl, by simpa using ho, hb⟩

def nums (l : List SSt) : List Value := l.map fun s => Value.int .u64 (s.num : Int)
theorem nums_take (l : List SSt) (k : Nat) (hk : k < l.length) : nums (l.take (k + 1)) = nums (l.take k) ++ [Value.int .u64 ((l.getD k default).num : Int)] := by
  have e : l.getD k default = l[k] := by rw [List.getD, List.getElem?_eq_getElem hk]; rfl
  unfold nums
  rw [e, List.take_add_one, List.getElem?_eq_getElem hk]
  exact List.map_append
def NumsPost (l : List SSt) (w : World) (e : Ending) (w' : World) : Prop := ∃ v, e = .returned v ∧ w'.ownsRow w.heap.size 29 1 v l.length (nums l) ∧ Below w.heap.size w w'
theorem own_slice {w : World} {base : Nat} {e : TypeId} {size : Nat} {v : Value} {m : Nat} {xs : List Value} (h : w.ownsRow base e size v m xs) : ∃ a c, v = .slice a m c := by
  rcases h.2 with ⟨rfl, rfl⟩ | ⟨g, c, _, rfl, _⟩
  · exact ⟨_, _, rfl⟩
  · exact ⟨_, _, rfl⟩
theorem own_low {N base : Nat} {w w' : World} {e : TypeId} {size : Nat} {v : Value} {m : Nat} {xs : List Value} (h : w.ownsRow base e size v m xs) (g : Below N w w') (hN : ∀ q, v.ownBlock = some q → q < N) : w'.ownsRow base e size v m xs :=
  ⟨h.1, by
    rcases h.2 with h5 | ⟨b, c, cur, h5, h6, h7, h8⟩
    · exact Or.inl h5
    · exact Or.inr ⟨b, c, cur, h5, h6, (g.block b (hN b (by rw [h5]; rfl))).trans h7, h8⟩⟩
set_option maxHeartbeats 1000000 in
set_option maxRecDepth 20000 in
theorem numbers_any (b off cap last : Nat) (l : List SSt) (now : ByteArray) (w : World) (L : ListAt w b off l) :
    Calls Try.prog 13 #[SV (.slice (some ⟨b, off, none⟩) l.length cap) now last] w fun e w' => NumsPost l w e w' := by
  obtain ⟨i0, hi0, hz0, hz1, hz2⟩ := info_parts info29
  have hp := L.pos
  go_enter Try.func13, Try.ntmps13
  go_wp2_with fail
  go_loopg [3, 9] l.length (fun g t3 t9 wr => ∃ k : Nat, t9 = .int .i64 k ∧ k + g = l.length ∧ wr.ownsRow w.heap.size 29 1 t3 k (nums (l.take k)) ∧ Below w.heap.size w wr)
  case atStart => exact ⟨0, rfl, by omega, World.ownsRow_nil _ _ _ _, by (repeat (first | (with_reducible assumption) | (with_reducible exact Below.refl _ _) | with_reducible apply bl_drewN | with_reducible apply Below.drew | (with_reducible apply bl_alloc; focus (first | (simp; done) | (simp; omega) | omega)) | (with_reducible apply bl_set; focus (first | (simp; done) | (simp; omega) | omega))))⟩
  case round =>
    obtain ⟨k, rfl, hk, ho, HB⟩ := hrel
    have HBs := HB.size
    have HK := Lib.hid hk
    obtain ⟨a3, c3, h3⟩ := own_slice ho
    subst h3
    cases gk with
    | zero =>
      have hk' : ¬ (k : Int) < l.length := by omega
      have hke : k = l.length := by omega
      clear hk
      subst hke
      rw [List.take_length] at ho
      go_wp2
      go_ret
      exact ⟨_, rfl, ho, HB⟩
    | succ g =>
      have hk' : (k : Int) < l.length := by omega
      have hkl : k < l.length := by omega
      clear hk
      have L1 := L.below HB
      have h0 := L1.c0 k hkl
      have h1 := L1.c1 k hkl
      have h2 := L1.c2 k hkl
      have hbl := L1.lt
      have HT := Lib.hid (nums_take l k hkl)
      generalize l.getD k default = x at h0 h1 h2 HT
      have o2 := (ho.alloc (.cells #[.int .u64 x.num, .int .u64 x.sent, .string x.val] 70)).alloc (.cells #[.int .u64 x.num] 29)
      clear L1
      go_wp2_with (at_builtin; refine wpList_append_lies _ rfl _ _ 41 rfl w.heap.size 29 i0 _ 1 8 Try.underlying41 hi0 hz0 hz1 hz2 rfl (by decide) _ k (nums (l.take k)) rfl o2 ⟨wr.heap.size + 1, 0, none⟩ 1 1 [.int .u64 x.num] rfl rfl ?c1 ?c2 (by decide) ?c3 ?c4 ?c5 (wr.heap.size + 2) ?c6 ?_)
      case c1 => exact World.news_of_block (by have := heap_alloc_new (wr.alloc (.cells #[.int .u64 x.num, .int .u64 x.sent, .string x.val] 70)) (.cells #[.int .u64 x.num] 29); simpa using this)
      case c2 => simp [Value.oneCell']
      case c3 => unfold maxLen; omega
      case c4 => omega
      case c5 => simp; omega
      case c6 => simp
      intro gg cc w' ho' hg hl hlt
      have hb : Below w.heap.size w w' := ((HB.alloc HBs _).alloc (by simp; omega) _).grown hg (by simp; omega) (fun q hq => (ho.lt q hq).1)
      clear o2
      rw [← HT.out] at ho'
      go_wp2_with fail
      go_roundg g
      case rel => exact ⟨k + 1, by simp, by have := HK.out; omega, ho', hb⟩
      case measure => omega
end Go.Proofs.Ytpnbmfpdoipioaa
