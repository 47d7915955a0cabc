/- The chapter's example. -/
import Derived.Test.YtkfgbaieghlhkaaBatch5
import Derived.Test.YtkfgbaieghlhkaaPoolAwake
namespace Go.Proofs.Ytkfgbaieghlhkaa
open Go.RowKit

theorem TurnB.thn {N pb B bb : Nat} {lb : Option Nat} {w0 w w' : World} (T : TurnB pb B bb lb w w') (HB : Below N w0 w) (hN : N ≤ w0.heap.size) (h1 : N ≤ pb) (h2 : N ≤ B) (h3 : N ≤ bb) (h4 : ∀ q, lb = some q → N ≤ q) : Below N w0 w' := by
  have hs := HB.size
  refine ⟨T.out.os.trans HB.os, T.out.tape.trans HB.tape, T.out.output.trans HB.output, by have := T.out.size; omega, fun k hk => ?_⟩
  refine (T.block k (by omega) (by omega) (by omega) (by omega) (fun e => ?_)).trans (HB.block k hk)
  have := h4 k e.symm
  omega
/-- A list's cells, read at once. -/
theorem own_reads {w : World} {base e size n : Nat} {v : Value} {xs : List Value} (h : w.ownsRow base e size v n xs) (hn : 0 < n) (hs : 0 < size) : ∃ g c, v = .slice (some ⟨g, 0, none⟩) n c ∧ base ≤ g ∧ g < w.heap.size ∧ (∀ j, j < n * size → w.cell? ⟨g, j, none⟩ = xs[j]?) := by
  obtain ⟨a, c, rfl⟩ := own_slice h
  rcases h.2 with ⟨h1, h2⟩ | ⟨g, cap, cur, h1, h2, h3⟩
  · omega
  · simp only [Value.slice.injEq] at h1
    obtain ⟨rfl, _, rfl⟩ := h1
    exact ⟨g, _, rfl, h2, (Array.getElem?_eq_some_iff.1 h3.1).1, fun j hj => World.ownsRow.cellAt h j hj⟩

theorem awake35 (w : World) : Calls Try.prog 35 #[] w fun e w' => e = .returned (.bool true) ∧ Below w.heap.size w w' := by
  go_enter Try.func35, Try.ntmps35
  go_wp2_with fail
  refine (awake08 _).mono ?_
  rintro e w1 ⟨rfl, HB⟩
  go_wp2
  go_ret
  exact ⟨rfl, HB⟩
set_option maxHeartbeats 2000000 in
theorem awake22 (w : World) : Calls Try.prog 20 #[] w fun e w' => e = .returned (.bool true) ∧ Below w.heap.size w w' := by
  go_enter Try.func20, Try.ntmps20
  go_wp2_with fail
  refine (new_any 3 _ (by omega) (by omega)).mono ?_
  rintro e w1 ⟨pb, B, rfl, P, hpb, hB, HB⟩
  have HBs := HB.size
  go_wp2_with fail
  refine (bnew_any pb 2 _ (by omega) (by omega)).mono ?_
  rintro e w2 ⟨bb, rfl, hbb, hbs, hb⟩
  have hplt := P.hd.lt
  have hBlt := P.lt
  have P2 := P.below hb
  have HB2 := Below.thn HB hb HBs
  have HBs2 := HB2.size
  have A2 : BatchAt w2 bb pb 2 w2.heap.size (.slice none 0 0) [] := ⟨hbb, World.ownsRow_nil _ _ _ _⟩
  have hs2 := hb.size
  have hbl := hbb.lt
  clear P hb HB hbb
  go_wp2_with fail
  refine (add_ok pb B bb 2 w2.heap.size 3 0 0 _ _ _ 1 0 ⟨#[97]⟩ _ P2 A2 (by omega) (by omega) hbl (Nat.le_refl _) (by omega) (by omega) (by decide) (by omega) (by decide) (by omega) (fun j hj => by omega) rfl (by omega)).mono ?_
  rintro e w3 ⟨rfl, lv, P3, A3, T, hlv⟩
  have HB3 := T.thn HB2 (Nat.le_refl _) hpb hB (by omega) (fun q e => by cases e)
  have HBs3 := HB3.size
  have hs3 := T.out.size
  clear T HB2 P2 A2 hlv
  go_wp2_with fail
  refine (flush_any pb B bb 2 w2.heap.size 3 1 _ _ _ _ P3 A3 (by omega) (by omega) hbl (by omega) (by omega) (by decide) (fun k hk => by match k, hk with | 0, _ => exact ⟨by decide, rfl⟩) (fun k j h1 h2 => by simp at h2; omega)).mono ?_
  rintro e w4 ⟨v, rfl, ho, P4, A4, T⟩
  have HB4 := T.thn HB3 (Nat.le_refl _) hpb hB (by omega) (fun q e => by cases e)
  have HBs4 := HB4.size
  clear T HB3 P3 A3 A4
  obtain ⟨g, c, rfl, hg, hgl, hcell⟩ := own_reads ho (by decide) (by decide)
  go_wp2_with fail
  refine (awake35 _).mono ?_
  rintro e w5 ⟨rfl, hb⟩
  have HB5 := Below.thn HB4 hb HBs4
  have P5 := P4.below hb
  have HBs5 := HB5.size
  have hc0 := ((hb.cell (p := ⟨g, 2, none⟩) hgl).trans (hcell 2 (by decide))).trans (rfl : _ = some (Value.string ⟨#[97]⟩))
  go_wp2_with fail
  refine (freeN_any pb B 3 1 _ _ P5).mono ?_
  rintro e w6 ⟨rfl, hb⟩
  have hf : (freeN (freeAll ((fresh 3).set 0 ⟨true, ⟨#[97]⟩⟩) ([] ++ [⟨1, 0, 0⟩])) 3 : Int) = 3 := rfl
  rw [hf]
  go_wp2
  go_ret
  exact ⟨rfl, Below.thn HB5 hb⟩
end Go.Proofs.Ytkfgbaieghlhkaa
