/- The document's AES: Box. -/
import Derived.Test.YtkblkdojmfgneaaRAes2
namespace Go.Proofs.Ytkblkdojmfgneaa
open Go.RowKit

theorem subN_at (a : Nat) (h : a < 256) : subN a = (boxL.getD a 0).toNat := by
  have h5 := List.all_eq_true.1 subN_box a (List.mem_range.2 h)
  rw [beq_iff_eq] at h5
  exact h5
theorem own_row_bytes {w : World} {base n c : Nat} {a : Option Addr} {l : List UInt8} (h : w.ownsRow base 5 1 (.slice a n c) n (l.map bval)) (hn : 0 < n) (hl : l.length = n) : ∃ g, a = some ⟨g, 0, none⟩ ∧ base ≤ g ∧ BRow w g l := by
  rcases h.2 with ⟨_, h5⟩ | ⟨q, c, cur, h5, h6, h7, h8, h9, h10, h11⟩
  · omega
  · simp only [Value.slice.injEq] at h5
    refine ⟨q, h5.1, h6, (Array.getElem?_eq_some_iff.1 h7).1, fun i hi => ?_, fun i hi => ?_⟩
    · have h12 : (cur.toList.take (n * 1))[i]? = cur.toList[i]? := List.getElem?_take_of_lt (by omega)
      rw [h11] at h12
      have B : Blk w q cur 5 := ⟨h7⟩
      rw [B.cell, ← Array.getElem?_toList, ← h12, List.getElem?_map, List.getD_eq_getElem?_getD, List.getElem?_eq_getElem hi]
      rfl
    · have B : Blk w q cur 5 := ⟨h7⟩
      exact B.frozen i
theorem take_snoc (l : List UInt8) (a : Nat) (h : a < l.length) : (l.take (a + 1)).map bval = (l.take a).map bval ++ [bval (l.getD a 0)] := by
  rw [List.take_add_one, List.map_append, List.getD_eq_getElem?_getD, List.getElem?_eq_getElem h]; rfl
set_option maxHeartbeats 8000000 in
set_option maxRecDepth 20000 in
theorem rbox_any (w : World) : Calls Try.prog 55 #[] w fun e w' => ∃ b c, e = .returned (.slice (some ⟨b, 0, none⟩) 256 c) ∧ w.heap.size ≤ b ∧ BRow w' b boxL ∧ Below w.heap.size w w' := by
  obtain ⟨i0, hi0, hz0, hz1, hz2⟩ := info_parts info5
  go_enter Try.func55, Try.ntmps55
  go_wp2_with fail
  go_loopg [1, 2] 256 (fun g t1 t2 wr => ∃ k : Nat, t2 = .int .i64 k ∧ k + g = 256 ∧ wr.ownsRow w.heap.size 5 1 t1 k ((boxL.take k).map bval) ∧ Below w.heap.size w wr)
  case atStart => exact ⟨0, rfl, by omega, World.ownsRow_nil _ _ _ _, Below.refl _ _⟩
  case round =>
    obtain ⟨k, rfl, hk, ho, HB⟩ := hrel
    have HBs := HB.size
    obtain ⟨a1, c1, h1⟩ := own_slice ho
    subst h1
    cases gk with
    | zero =>
      obtain rfl : k = 256 := by omega
      clear hk
      rw [List.take_of_length_le (by rw [boxL_len]; exact Nat.le_refl _)] at ho
      obtain ⟨g, he, hg, hR⟩ := own_row_bytes ho (by decide) boxL_len
      subst he
      go_wp2
      go_ret
      exact ⟨g, _, rfl, hg, hR, HB⟩
    | succ g =>
      have hk' : (k : Int) < 256 := by omega
      have hkl : k < 256 := by omega
      have hmod : (k : Int) % 256 = (k : Int) := by omega
      have hrow := take_snoc boxL k (by rw [boxL_len]; exact hkl)
      have hsub := fun W => rsub_any k hkl W
      rw [subN_at k hkl] at hsub
      obtain ⟨v, hv⟩ : ∃ v, boxL.getD k 0 = v := ⟨_, rfl⟩
      rw [hv] at hsub hrow
      have HK := Lib.hid hk; have HR := Lib.hid hrow; have HS := Lib.hid hsub
      clear hk hrow hsub hv
      go_wp2_with fail
      refine (HS.out _).mono ?_
      rintro e W1 ⟨rfl, hb⟩
      have HB1 := Below.thn HB hb HBs
      have ho1 := own_below ho hb
      have HBs1 := HB1.size
      have o2 := ho1.alloc (.cells #[.int .u8 ((v.toNat : Nat) : Int)] 5)
      clear hb HB ho HBs
      go_wp2_with (at_builtin; refine wpList_append_lies _ rfl _ _ 36 rfl w.heap.size 5 i0 _ 1 1 Try.underlying36 hi0 hz0 hz1 hz2 rfl (by decide) _ k ((boxL.take k).map bval) rfl o2 ⟨W1.heap.size, 0, none⟩ 1 1 [.int .u8 ((v.toNat : Nat) : Int)] rfl rfl (World.news_of_block (heap_alloc_new W1 _)) (by simp [Value.oneCell']) (by decide) ?c3 ?c4 ?c5 (W1.heap.size + 1) (by simp) ?_)
      case c3 => unfold maxLen; omega
      case c4 => omega
      case c5 => first | omega | (simp; omega)
      intro gg cc W3 ho3 hg3 hl3 hlt3
      have HB3 : Below w.heap.size w W3 := (HB1.alloc HBs1 _).grown hg3 (by simp; omega) (fun q hq => (ho1.lt q hq).1)
      clear o2 hg3 hl3 hlt3 ho1 HB1
      have ho3' : W3.ownsRow w.heap.size 5 1 (.slice (some ⟨gg, 0, none⟩) (k + 1) cc) (k + 1) ((boxL.take (k + 1)).map bval) := by rw [HR.out, List.map_take]; exact ho3
      clear ho3
      go_wp2_with fail
      go_roundg g
      case rel => exact ⟨k + 1, by simp, by have := HK.out; omega, ho3', HB3⟩
      case measure => omega
end Go.Proofs.Ytkblkdojmfgneaa
