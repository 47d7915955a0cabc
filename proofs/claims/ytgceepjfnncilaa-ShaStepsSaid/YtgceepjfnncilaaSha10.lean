/- Package word: Cut; the first chapter's example. -/
import Derived.Test.YtgceepjfnncilaaSha9
import Derived.Test.YtgceepjfnncilaaOwn
namespace Go.Proofs.Ytgceepjfnncilaa
open Go.RowKit

def strs (l : List ByteArray) : List Value := l.map Value.string
theorem strs_snoc (l : List ByteArray) (s : ByteArray) : strs (l ++ [s]) = strs l ++ [.string s] := by simp [strs]
theorem info9 : (Try.prog.info? 9).map (fun i => (i.zero, i.size, i.bytes)) = some (some (.string ⟨#[]⟩), 1, 16) := by kernel_rfl
def cutL : ByteArray → List Nat → List ByteArray
  | s, [] => [s]
  | s, n :: r => s.extract 0 n :: cutL (s.extract n s.size) r
theorem cutL_len : ∀ (ns : List Nat) (s : ByteArray), (cutL s ns).length = ns.length + 1
  | [], _ => rfl
  | n :: r, s => by rw [cutL, List.length_cons, cutL_len r, List.length_cons]
def CutPost (s : ByteArray) (ns : List Nat) (w : World) (e : Ending) (w' : World) : Prop := ∃ v, e = .returned (.tuple #[v, .int .i64 0]) ∧ w'.ownsRow w.heap.size 9 1 v (ns.length + 1) (strs (cutL s ns)) ∧ Below w.heap.size w w'
set_option maxHeartbeats 4000000 in
set_option maxRecDepth 20000 in
theorem cut_any (s : ByteArray) (ns : List Nat) (b : Nat) (t : TypeId) (w : World) (B : Blk w b (nums .i64 ns).toArray t) (hs : s.size ≤ 100000) (hf : ns.sum ≤ s.size) (hn : ns.length ≤ 1000) :
    Calls Try.prog 54 #[.string s, .slice (some ⟨b, 0, none⟩) ns.length ns.length] w fun e w' => CutPost s ns w e w' := by
  obtain ⟨i0, hi0, hz0, hz1, hz2⟩ := info_parts info9
  unfold CutPost
  obtain ⟨ALL, hALL⟩ : ∃ A, cutL s ns = A := ⟨_, rfl⟩
  have hAl : ALL.length = ns.length + 1 := by rw [← hALL]; exact cutL_len _ _
  obtain ⟨n, hnl⟩ : ∃ n, ns.length = n := ⟨_, rfl⟩
  have hcut0 : cutL s (ns.drop 0) = ALL := by rw [List.drop_zero]; exact hALL
  rw [hALL]
  have hget : ∀ i, i < n → (nums .i64 ns).toArray[i]? = some (.int .i64 (ns.getD i 0 : Nat)) := fun i hi => by
    rw [List.getElem?_toArray, nums_get _ _ _ (by omega)]
  have HG := Lib.hid hget; have HF := Lib.hid hf; have HAL := Lib.hid hALL
  rw [hnl] at hAl hn ⊢
  have HNL := Lib.hid hnl; have HAl := Lib.hid hAl
  have HC := Lib.hid hcut0
  clear hget hf hALL hnl hAl hcut0
  go_enter Try.func54, Try.ntmps54
  go_wp2_with fail
  go_loopg [0, 6, 11] n (fun g t0 t6 t11 wr => ∃ (k : Nat) (c : ByteArray) (pre : List ByteArray), t11 = .int .i64 k ∧ t0 = .string c ∧ k + g = n ∧ pre.length = k ∧ (ns.drop k).sum ≤ c.size ∧ c.size ≤ 100000 ∧ pre ++ cutL c (ns.drop k) = ALL ∧ wr.ownsRow w.heap.size 9 1 t6 k (strs pre) ∧ Below w.heap.size w wr)
  case atStart => exact ⟨0, s, [], rfl, rfl, by omega, rfl, HF.out, hs, HC.out, World.ownsRow_nil _ _ _ _, Below.refl _ _⟩
  case round =>
    obtain ⟨k, c, pre, rfl, rfl, hk, hpl, hsum, hcs, hall, ho, HB⟩ := hrel
    have B1 := B.below HB
    have HBs := HB.size
    obtain ⟨a3, c3, h3⟩ := own_slice ho
    subst h3
    have HPL := Lib.hid hpl; have HSUM := Lib.hid hsum
    clear hpl hsum
    cases gk with
    | zero =>
      have hk' : ¬ (k : Int) < n := by omega
      obtain rfl : k = n := by omega
      have hd : ns.drop k = [] := List.drop_eq_nil_of_le (by have := HNL.out; omega)
      rw [hd] at hall
      have hall2 : strs ALL = strs pre ++ [.string c] := by rw [← hall]; exact strs_snoc _ _
      have HALL := Lib.hid hall2
      clear hall hall2 hd hk
      have o2 := ho.alloc (.cells #[.string c] 9)
      go_wp2_with (at_builtin; refine wpList_append_lies _ rfl _ _ 67 rfl w.heap.size 9 i0 _ 1 16 Try.underlying67 hi0 hz0 hz1 hz2 rfl (by decide) _ _ _ rfl o2 ⟨wr.heap.size, 0, none⟩ 1 1 [.string c] rfl rfl (World.news_of_block (heap_alloc_new wr _)) (by simp [Value.oneCell']) (by decide) ?c3 ?c4 ?c5 (wr.heap.size + 1) (by simp) ?_)
      case c3 => unfold maxLen; omega
      case c4 => omega
      case c5 => first | omega | (simp; omega)
      intro gg cc w' ho' hg hl hlt
      have hb : Below w.heap.size w w' := (HB.alloc HBs _).grown hg (by simp; omega) (fun q hq => (ho.lt q hq).1)
      clear o2 hg hl hlt
      rw [← HALL.out] at ho'
      go_wp2_with fail
      refine bodyPost_ret (v := .tuple #[_, .int .i64 0]) ?_ rfl ⟨_, rfl, ho', hb⟩
      simp [results, Try.results54, go_sem]
    | succ g =>
      have hk' : (k : Int) < n := by omega
      have hkl : k < n := by omega
      obtain ⟨m, hm⟩ : ∃ m, ns.getD k 0 = m := ⟨_, rfl⟩
      have hdrop : ns.drop k = m :: ns.drop (k + 1) := by
        have h6 : k < ns.length := by rw [HNL.out]; exact hkl
        rw [List.drop_eq_getElem_cons h6, ← hm, List.getD_eq_getElem?_getD, List.getElem?_eq_getElem h6]; rfl
      have hsum2 := HSUM.out
      rw [hdrop, List.sum_cons] at hsum2
      have hmc : (m : Int) ≤ c.size := by omega
      have hm0 : ¬ (m : Int) < 0 := by omega
      have hmg : ¬ (c.size : Int) < m := by omega
      rw [hdrop] at hall
      have hcell : wr.cell? ⟨b, k, none⟩ = some (.int .i64 m) := by rw [B1.cell, HG.out k hkl, hm]
      have hblt := B1.lt
      obtain ⟨c1, hc1⟩ : ∃ x, c.extract 0 m = x := ⟨_, rfl⟩
      obtain ⟨c2, hc2⟩ : ∃ x, c.extract m c.size = x := ⟨_, rfl⟩
      have hall2 : (pre ++ [c1]) ++ cutL c2 (ns.drop (k + 1)) = ALL := by
        rw [← hall, cutL, hc1, hc2, List.append_assoc]; rfl
      have hc2s : c2.size = c.size - m := by rw [← hc2, ByteArray.size_extract]; omega
      have hrow : strs (pre ++ [c1]) = strs pre ++ [.string c1] := strs_snoc _ _
      have hs2 : (ns.drop (k + 1)).sum ≤ c2.size := by omega
      have hcs2 : c2.size ≤ 100000 := by omega
      have HALL := Lib.hid hall2; have HR := Lib.hid hrow; have HS2 := Lib.hid hs2; have HCS2 := Lib.hid hcs2; have HKK := Lib.hid hk; have HPL2 := Lib.hid (show (pre ++ [c1]).length = k + 1 by rw [List.length_append, HPL.out]; rfl)
      clear hall hall2 hrow hs2 hcs2 hc2s hsum2 hdrop hm hk
      have o2 := ho.alloc (.cells #[.string c1] 9)
      go_wp2_with (at_builtin; refine wpList_append_lies _ rfl _ _ 67 rfl w.heap.size 9 i0 _ 1 16 Try.underlying67 hi0 hz0 hz1 hz2 rfl (by decide) _ _ _ rfl o2 ⟨wr.heap.size, 0, none⟩ 1 1 [.string c1] rfl rfl (World.news_of_block (heap_alloc_new wr _)) (by simp [Value.oneCell']) (by decide) ?c3 ?c4 ?c5 (wr.heap.size + 1) (by simp) ?_)
      case c3 => unfold maxLen; omega
      case c4 => omega
      case c5 => first | omega | (simp; omega)
      intro gg cc w' ho' hg hl hlt
      have hb : Below w.heap.size w w' := (HB.alloc HBs _).grown hg (by simp; omega) (fun q hq => (ho.lt q hq).1)
      clear o2 hg hl hlt
      rw [← HR.out] at ho'
      go_wp2_with fail
      go_roundg g
      case rel => exact ⟨k + 1, c2, pre ++ [c1], by simp, rfl, by have := HKK.out; omega, HPL2.out, HS2.out, HCS2.out, HALL.out, ho', hb⟩
      case measure => omega
end Go.Proofs.Ytgceepjfnncilaa
