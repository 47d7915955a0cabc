/- Layer 1's example. -/
import Derived.Test.YtpnbmfpdoipioaaWord2
namespace Go.Proofs.Ytpnbmfpdoipioaa
open Go.RowKit

structure TextsAt (w : World) (b : Nat) (l : List ByteArray) : Prop where
  lt : b < w.heap.size
  cell : ∀ j, j < l.length → w.cell? ⟨b, j, none⟩ = some (.string (l.getD j ⟨#[]⟩))
theorem TextsAt.below {w w' : World} {b : Nat} {l : List ByteArray} (h : TextsAt w b l) (g : Below w.heap.size w w') : TextsAt w' b l :=
  ⟨Nat.lt_of_lt_of_le h.lt g.size, fun j hj => (g.cell (p := ⟨b, j, none⟩) h.lt).trans (h.cell j hj)⟩
theorem texts_of_own {w : World} {base : Nat} {v : Value} {l : List ByteArray} (h : w.ownsRow base 9 1 v l.length (strs l)) (hp : 0 < l.length) : ∃ g c, v = .slice (some ⟨g, 0, none⟩) l.length c ∧ base ≤ g ∧ TextsAt w g l := by
  obtain ⟨g, c, rfl, hg, hgl, hc⟩ := own_reads h hp
  refine ⟨g, c, rfl, hg, hgl, fun j hj => ?_⟩
  rw [hc j (by omega)]
  simp [strs, List.getElem?_eq_getElem hj, List.getD]
set_option maxHeartbeats 1000000 in
theorem strs_equal (b1 b2 c1 c2 : Nat) (l : List ByteArray) (w : World) (h1 : TextsAt w b1 l) (h2 : TextsAt w b2 l) (hl : l.length ≤ 100) :
    Calls Try.prog 55 #[.slice (some ⟨b1, 0, none⟩) l.length c1, .slice (some ⟨b2, 0, none⟩) l.length c2] w fun e w' => e = .returned (.bool true) ∧ Below w.heap.size w w' := by
  go_enter Try.func55, Try.ntmps55
  go_wp2_with fail
  go_loopg [13] l.length (fun g t13 wr => ∃ k : Nat, t13 = .int .i64 k ∧ k + g = l.length ∧ Below w.heap.size w wr)
  case atStart => exact ⟨0, rfl, by omega, Below.refl _ _⟩
  case round =>
    obtain ⟨k, rfl, hk, hb⟩ := hrel
    have HK := Lib.hid hk
    have hws := hb.size
    cases gk with
    | zero =>
      have hk' : ¬ (k : Int) < l.length := by omega
      clear hk
      go_wp2
      go_ret
      exact ⟨rfl, hb⟩
    | succ g =>
      have hk' : (k : Int) < l.length := by omega
      have hkl : k < l.length := by omega
      clear hk
      have hx := (h1.below hb).cell k hkl
      have hy := (h2.below hb).cell k hkl
      generalize l.getD k ⟨#[]⟩ = x at hx hy
      have HB := Lib.hid hb
      clear hb
      go_wp2_with fail
      go_quiet (fail)
      go_wp2_with fail
      go_roundg g
      case rel => exact ⟨k + 1, by simp, by have := HK.out; omega, Below.thn HB.out (Below.drewN' (Nat.le_refl _) _) hws⟩
      case measure => omega
theorem cut_some (s : ByteArray) (b cap : Nat) (ns : List Nat) (l : List ByteArray) (w : World) (hc : ∀ j, j < ns.length → w.cell? ⟨b, j, none⟩ = some (.int .i64 (ns.getD j 0 : Nat))) (hb : b < w.heap.size) (hn : ns.length ≤ 100) (hs : s.size ≤ 140737488355328) (hl : cutR s ns = some l) :
    Calls Try.prog 38 #[.string s, .slice (some ⟨b, 0, none⟩) ns.length cap] w fun e w' => ∃ v, e = .returned (.tuple #[v, .int .i64 0]) ∧ w'.ownsRow w.heap.size 9 1 v l.length (strs l) ∧ Below w.heap.size w w' := by
  refine (cut_any s b cap ns w hc hb hn hs).mono ?_
  rintro e w1 (⟨l2, v, hl2, rfl, ho, hb⟩ | ⟨hl2, _⟩)
  · rw [hl] at hl2; cases hl2; exact ⟨v, rfl, ho, hb⟩
  · rw [hl] at hl2; cases hl2
theorem cut_none (s : ByteArray) (b cap : Nat) (ns : List Nat) (w : World) (hc : ∀ j, j < ns.length → w.cell? ⟨b, j, none⟩ = some (.int .i64 (ns.getD j 0 : Nat))) (hb : b < w.heap.size) (hn : ns.length ≤ 100) (hs : s.size ≤ 140737488355328) (hl : cutR s ns = none) :
    Calls Try.prog 38 #[.string s, .slice (some ⟨b, 0, none⟩) ns.length cap] w fun e w' => e = .returned (.tuple #[.slice none 0 0, .int .i64 3]) ∧ Below w.heap.size w w' := by
  refine (cut_any s b cap ns w hc hb hn hs).mono ?_
  rintro e w1 (⟨l2, v, hl2, rfl, ho, hb⟩ | ⟨hl2, h⟩)
  · rw [hl] at hl2; cases hl2
  · exact h
set_option maxHeartbeats 1000000 in
set_option maxRecDepth 20000 in
theorem awake49 (w : World) : Calls Try.prog 49 #[] w fun e w' => e = .returned (.bool true) ∧ Below w.heap.size w w' := by
  have hcr : cutR ⟨#[97, 98, 99, 100]⟩ [1, 2] = some [⟨#[97]⟩, ⟨#[98, 99]⟩, ⟨#[100]⟩] := by decide
  have hpb : putB 258 2 = ⟨#[1, 2]⟩ := by decide
  have B0 := Blk.new w #[.int .i64 1, .int .i64 2] 3
  have hcut := cut_some ⟨#[97, 98, 99, 100]⟩ w.heap.size 2 [1, 2] _ (w.alloc (.cells #[.int .i64 1, .int .i64 2] 3)) (fun j hj => by
    rw [B0.cell]
    match j, hj with
    | 0, _ => rfl
    | 1, _ => rfl) B0.lt (by decide) (by decide) hcr
  have HB0 : Below w.heap.size w (w.alloc (.cells #[.int .i64 1, .int .i64 2] 3)) := (Below.refl _ _).alloc (Nat.le_refl _) _
  have HB0s := HB0.size
  go_enter Try.func49, Try.ntmps49
  go_wp2_with fail
  refine hcut.mono ?_
  rintro e w1 ⟨v, rfl, ho, hb⟩
  have HB1 := Below.thn HB0 hb HB0s
  have HBs1 := HB1.size
  obtain ⟨g, c, rfl, hg, T1⟩ := texts_of_own ho (by decide)
  clear hcut B0 HB0 hb ho hcr
  have BT := Blk.new w1 #[.string ⟨#[97]⟩, .string ⟨#[98, 99]⟩, .string ⟨#[100]⟩] 9
  have hb2 : Below w1.heap.size w1 (w1.alloc (.cells #[.string ⟨#[97]⟩, .string ⟨#[98, 99]⟩, .string ⟨#[100]⟩] 9)) := (Below.refl _ _).alloc (Nat.le_refl _) _
  have T2 : TextsAt (w1.alloc (.cells #[.string ⟨#[97]⟩, .string ⟨#[98, 99]⟩, .string ⟨#[100]⟩] 9)) w1.heap.size [⟨#[97]⟩, ⟨#[98, 99]⟩, ⟨#[100]⟩] := ⟨BT.lt, fun j hj => by
    rw [BT.cell]
    match j, hj with
    | 0, _ => rfl
    | 1, _ => rfl
    | 2, _ => rfl⟩
  have HB2 := Below.thn HB1 hb2 HBs1
  have HBs2 := HB2.size
  have heq := strs_equal g w1.heap.size c 3 _ _ (T1.below hb2) T2 (by decide)
  clear BT T1 T2 hb2
  go_wp2_with fail
  refine heq.mono ?_
  rintro e w2 ⟨rfl, hb⟩
  have HB3 := Below.thn HB2 hb HBs2
  have HBs3 := HB3.size
  clear heq hb
  go_wp2_with fail
  refine (put_any 258 2 _ (by omega) (by omega)).mono ?_
  rintro e w3 ⟨rfl, hb⟩
  rw [hpb]
  go_wp2
  go_ret
  exact ⟨rfl, Below.thn HB3 hb HBs3⟩
theorem awake28 (w : World) : Calls Try.prog 28 #[] w fun e w' => e = .returned (.bool true) ∧ Below w.heap.size w w' := by
  go_enter Try.func28, Try.ntmps28
  go_wp2_with fail
  refine (awake49 _).mono ?_
  rintro e w1 ⟨rfl, HB⟩
  go_wp2
  go_ret
  exact ⟨rfl, HB⟩
end Go.Proofs.Ytpnbmfpdoipioaa
