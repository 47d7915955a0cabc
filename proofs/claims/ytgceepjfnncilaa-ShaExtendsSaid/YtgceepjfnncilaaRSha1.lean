/- The document's sums: rotr, K, Start; slices.Equal of numbers. -/
import Derived.Test.YtgceepjfnncilaaSha11
namespace Go.Proofs.Ytgceepjfnncilaa
open Go.RowKit

set_option maxHeartbeats 4000000 in
set_option maxRecDepth 20000 in
theorem rrot_any (x n : Nat) (w : World) (hx : x < 4294967296) (h1 : 1 ≤ n) (h2 : n ≤ 31) :
    Calls Try.prog 44 #[.int .u32 x, .int .i64 n] w fun e w' => e = .returned (.int .u32 (rotr x n : Nat)) ∧ Below w.heap.size w w' := by
  obtain ⟨s, hs⟩ : ∃ s, 32 - n = s := ⟨_, rfl⟩
  have hsn : (32 : Int) - n = s := by omega
  have hs0 : (0 : Int) ≤ s := by omega
  have hn0 : (0 : Int) ≤ n := by omega
  have hsi : (s : Int) < 32 := by omega
  have hni : (n : Int) < 32 := by omega
  have hval : bits .or .u32 ((x : Int) / 2 ^ n) ((x : Int) * 2 ^ s % 4294967296) = ((rotr x n : Nat) : Int) := by
    have h5 := u32_or_nat (x / 2 ^ n) (x * 2 ^ s % 4294967296) (Nat.lt_of_le_of_lt (Nat.div_le_self _ _) hx) (Nat.mod_lt _ (by decide))
    have e1 : ((x : Int) * 2 ^ s % 4294967296) = ((x * 2 ^ s % 4294967296 : Nat) : Int) := by simp
    have e2 : ((x : Int) / 2 ^ n) = ((x / 2 ^ n : Nat) : Int) := by simp
    rw [e1, e2, h5]
    unfold rotr
    rw [Nat.shiftRight_eq_div_pow, Nat.shiftLeft_eq, hs]
  have HV := Lib.hid hval
  clear hval hs
  go_enter Try.func44, Try.ntmps44
  go_wp2_with fail
  refine wp_region_gr (by kernel_rfl) (by kernel_rfl) ?_
  repeat (first
    | go_big_quiet_skip
    | ((refine BigFrame.wpQuiet_want rfl (fun K hK => quiet_mk ?_)); apply Exists.intro; refine ⟨fun wq hq => ?_, hK _ ?_⟩
       · go_simp; (try simp only [↓IntWalk.iteOmega]); (try go_bits)
         first | done | rfl | exact ⟨rfl, rfl⟩ | exact ⟨trivial, rfl⟩
       clear hK K; (try simp only [Act.put, List.setIfInBounds_toArray, List.set_cons_zero, List.set_cons_succ])))
  refine wpQuiet_nil ?_
  intro W2 hw2
  go_wp2_with fail
  go_ret
  exact ⟨by rw [← HV.out]; rfl, hw2.out⟩
set_option maxHeartbeats 4000000 in
set_option maxRecDepth 20000 in
theorem rk_any (w : World) : Calls Try.prog 22 #[] w fun e w' => ∃ b, e = .returned (.slice (some ⟨b, 0, none⟩) 64 64) ∧ w.heap.size ≤ b ∧ Blk w' b (nums .u32 constK).toArray 34 ∧ Below w.heap.size w w' := by
  go_enter Try.func22, Try.ntmps22
  go_wp2_with fail
  go_ret
  exact ⟨_, rfl, Nat.le_refl _, (Blk.new _ _ _).conv rfl, (by (repeat (first | (with_reducible assumption) | (with_reducible exact Below.refl _ _) | with_reducible apply bl_drewN | with_reducible apply Below.drew | (with_reducible apply bl_alloc; focus (first | (simp; done) | (simp; omega) | omega)) | (with_reducible apply bl_set; focus (first | (simp; done) | (simp; omega) | omega)))))⟩
set_option maxHeartbeats 4000000 in
set_option maxRecDepth 20000 in
theorem rstart_any (w : World) : Calls Try.prog 23 #[] w fun e w' => ∃ b, e = .returned (.slice (some ⟨b, 0, none⟩) 8 8) ∧ w.heap.size ≤ b ∧ Blk w' b (nums .u32 constH).toArray 34 ∧ Below w.heap.size w w' := by
  go_enter Try.func23, Try.ntmps23
  go_wp2_with fail
  go_ret
  exact ⟨_, rfl, Nat.le_refl _, (Blk.new _ _ _).conv rfl, (by (repeat (first | (with_reducible assumption) | (with_reducible exact Below.refl _ _) | with_reducible apply bl_drewN | with_reducible apply Below.drew | (with_reducible apply bl_alloc; focus (first | (simp; done) | (simp; omega) | omega)) | (with_reducible apply bl_set; focus (first | (simp; done) | (simp; omega) | omega)))))⟩
/-- Numbers that lie in a row. -/
def Row32 (w : World) (b : Nat) (l : List Nat) : Prop := b < w.heap.size ∧ ∀ i, i < l.length → w.cell? ⟨b, i, none⟩ = some (.int .u32 (l.getD i 0 : Nat))
theorem Row32.below {w w' : World} {b : Nat} {l : List Nat} (h : Row32 w b l) (g : Below w.heap.size w w') : Row32 w' b l :=
  ⟨Nat.lt_of_lt_of_le h.1 g.size, fun i hi => (g.cell (p := ⟨b, i, none⟩) h.1).trans (h.2 i hi)⟩
theorem Row32.of_blk {w : World} {b : Nat} {l : List Nat} {t : TypeId} (B : Blk w b (nums .u32 l).toArray t) : Row32 w b l :=
  ⟨B.lt, fun i hi => by rw [B.cell, List.getElem?_toArray, nums_get _ _ _ hi]⟩
theorem drop_eq_iff {l m : List Nat} {i n : Nat} (hl : l.length = n) (hm : m.length = n) (hi : i < n) : (l.drop i = m.drop i) ↔ l.getD i 0 = m.getD i 0 ∧ l.drop (i + 1) = m.drop (i + 1) := by
  rw [List.drop_eq_getElem_cons (by omega : i < l.length), List.drop_eq_getElem_cons (by omega : i < m.length), List.getD_eq_getElem?_getD, List.getD_eq_getElem?_getD, List.getElem?_eq_getElem (by omega : i < l.length), List.getElem?_eq_getElem (by omega : i < m.length), List.cons.injEq]
  rfl
set_option maxHeartbeats 4000000 in
set_option maxRecDepth 20000 in
theorem eq32_any (b1 b2 c1 c2 n : Nat) (l m : List Nat) (w : World) (hl : l.length = n) (hm : m.length = n) (hn : n ≤ 1000) (R1 : Row32 w b1 l) (R2 : Row32 w b2 m) :
    Calls Try.prog 21 #[.slice (some ⟨b1, 0, none⟩) n c1, .slice (some ⟨b2, 0, none⟩) n c2] w fun e w' => e = .returned (.bool (decide (l = m))) ∧ Below w.heap.size w w' := by
  obtain ⟨E, hE⟩ : ∃ p : Bool, decide (l = m) = p := ⟨_, rfl⟩
  have HS := Lib.hid (show decide (l.drop 0 = m.drop 0) = E by rw [List.drop_zero, List.drop_zero]; exact hE)
  have HL := Lib.hid hl; have HM := Lib.hid hm
  rw [hE]
  clear hl hm hE
  go_enter Try.func21, Try.ntmps21
  go_wp2_with fail
  go_loopg [13] n (fun gk t13 wr => ∃ i : Nat, t13 = .int .i64 i ∧ i + gk = n ∧ decide (l.drop i = m.drop i) = E ∧ Below w.heap.size w wr)
  case atStart => exact ⟨0, rfl, by omega, HS.out, Below.refl _ _⟩
  case round =>
    clear HS
    obtain ⟨i, rfl, hi, hE, HB⟩ := hrel
    cases gk with
    | zero =>
      have hin : ¬ (i : Int) < n := by omega
      obtain rfl : E = true := by rw [← hE, List.drop_of_length_le (by rw [HL.out]; omega), List.drop_of_length_le (by rw [HM.out]; omega)]; rfl
      clear hi hE
      go_wp2_with fail
      go_ret
      exact ⟨rfl, HB⟩
    | succ gk =>
      have hin : (i : Int) < n := by omega
      have hil : i < n := by omega
      have R1' := R1.below HB
      have R2' := R2.below HB
      obtain ⟨x, hx⟩ : ∃ x, l.getD i 0 = x := ⟨_, rfl⟩
      obtain ⟨y, hy⟩ : ∃ y, m.getD i 0 = y := ⟨_, rfl⟩
      have hc1 : wr.cell? ⟨b1, i, none⟩ = some (.int .u32 x) := by rw [R1'.2 i (by rw [HL.out]; exact hil), hx]
      have hc2 : wr.cell? ⟨b2, i, none⟩ = some (.int .u32 y) := by rw [R2'.2 i (by rw [HM.out]; exact hil), hy]
      have hE2 : decide (x = y ∧ l.drop (i + 1) = m.drop (i + 1)) = E := by
        rw [← hE, ← hx, ← hy]; exact decide_eq_decide.2 (drop_eq_iff HL.out HM.out hil).symm
      have HE := Lib.hid hE2; have HI := Lib.hid hi
      have hl1 := R1'.1; have hl2 := R2'.1
      clear hE hE2 hi hx hy R1' R2'
      go_wp2_with fail
      refine wp_region_gr (by kernel_rfl) (by kernel_rfl) ?_
      repeat (first
        | go_big_quiet_skip
        | ((refine BigFrame.wpQuiet_want rfl (fun K hK => quiet_mk ?_)); apply Exists.intro; refine ⟨fun wq hq => ?_, hK _ ?_⟩
           · have f0 := hq.cell hc1; have f1 := hq.cell hc2; go_simp; (try simp only [↓IntWalk.iteOmega]); (try go_bits)
             first | done | rfl | exact ⟨rfl, rfl⟩ | exact ⟨trivial, rfl⟩
           clear hK K; (try simp only [Act.put, List.setIfInBounds_toArray, List.set_cons_zero, List.set_cons_succ])))
      refine wpQuiet_nil ?_
      intro W2 hw2
      have HB2 := Below.thn HB hw2.out HB.size
      clear hw2 hc1 hc2 hl1 hl2
      by_cases hxy : x = y
      · have hxi : (x : Int) = y := by omega
        have hE3 : decide (l.drop (i + 1) = m.drop (i + 1)) = E := by rw [← HE.out]; simp [hxy]
        have HE3 := Lib.hid hE3
        clear hE3 HE
        go_wp2_with fail
        go_roundg gk
        case rel => exact ⟨i + 1, by simp, by have := HI.out; omega, HE3.out, HB2⟩
        case measure => omega
      · have hxi : ¬ (x : Int) = y := by omega
        obtain rfl : E = false := by rw [← HE.out]; simp [hxy]
        clear HE
        go_wp2_with fail
        go_ret
        exact ⟨rfl, HB2⟩
end Go.Proofs.Ytgceepjfnncilaa
