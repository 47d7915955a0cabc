/- Package aes: mixed. -/
import Derived.Test.YtkblkdojmfgneaaAes5
namespace Go.Proofs.Ytkblkdojmfgneaa
open Go.RowKit

set_option maxHeartbeats 4000000 in
set_option maxRecDepth 20000 in
theorem at_any (l : List UInt8) (hl : l.length = 16) (bb cb ib i c n k : Nat) (hk : c + (i + n) % 4 = k) (hk16 : k < 16) (hi : i < 16) (hn : n < 4) (w : World) (L : Blk w bb (bcells l) 25)
    (C : w.cell? ⟨cb, 0, none⟩ = some (.int .i64 (c : Int))) (I : w.cell? ⟨ib, 0, none⟩ = some (.int .i64 (i : Int))) :
    Calls Try.prog 85 #[.int .i64 (n : Int), .pointer (some ⟨bb, 0, none⟩), .pointer (some ⟨cb, 0, none⟩), .pointer (some ⟨ib, 0, none⟩)] w fun e w' => e = .returned (.int .u8 (((l.getD k 0).toNat : Nat) : Int)) ∧ Below w.heap.size w w' := by
  have c1 := L.cell k
  rw [bcells_get l k (by omega)] at c1
  obtain ⟨s, hs⟩ : ∃ s, i + n = s := ⟨_, rfl⟩
  obtain ⟨r, hr⟩ : ∃ r, s % 4 = r := ⟨_, rfl⟩
  rw [hs, hr] at hk
  have i1 : (i : Int) + (n : Int) = (s : Int) := by omega
  have i2 : (s : Int) % 4 = (r : Int) := by omega
  have i3 : (c : Int) + (r : Int) = (k : Int) := by omega
  have i4 : (k : Int) < 16 := by omega
  obtain ⟨x, hx⟩ : ∃ x, l.getD k 0 = x := ⟨_, rfl⟩
  rw [hx] at c1 ⊢
  clear hs hr hk hx
  go_enter Try.func85, Try.ntmps85
  go_wp2_with fail
  go_ret
  exact ⟨rfl, Below.refl _ _⟩
theorem andnot3 (i : Nat) (h : i < 16) : bits .andNot .i64 (i : Int) 3 = ((i / 4 * 4 : Nat) : Int) := by
  have : i = 0 ∨ i = 1 ∨ i = 2 ∨ i = 3 ∨ i = 4 ∨ i = 5 ∨ i = 6 ∨ i = 7 ∨ i = 8 ∨ i = 9 ∨ i = 10 ∨ i = 11 ∨ i = 12 ∨ i = 13 ∨ i = 14 ∨ i = 15 := by omega
  rcases this with rfl | rfl | rfl | rfl | rfl | rfl | rfl | rfl | rfl | rfl | rfl | rfl | rfl | rfl | rfl | rfl <;> rfl
set_option maxHeartbeats 8000000 in
set_option maxRecDepth 20000 in
theorem mixed_any (l : List UInt8) (hl : l.length = 16) (w : World) : Calls Try.prog 62 #[.agg (bcells l)] w fun e w' => e = .returned (.agg (bcells (mixedL l))) ∧ Below w.heap.size w w' := by
  have hls := bcells_len l hl
  go_enter Try.func62, Try.ntmps62
  go_upto_region 2 with fail
  refine wp_absQ (fun W => Below w.heap.size w W ∧ Blk W w.heap.size (bcells l) 25 ∧ Blk W (w.heap.size + 1) z16 25 ∧ Blk W (w.heap.size + 1 + 1) (bcells (List.replicate 16 0)) 25) ⟨by (repeat (first | (with_reducible assumption) | (with_reducible exact Below.refl _ _) | with_reducible apply bl_drewN | with_reducible apply Below.drew | (with_reducible apply bl_alloc; focus (first | (simp; done) | (simp; omega) | omega)) | (with_reducible apply bl_set; focus (first | (simp; done) | (simp; omega) | omega)))), by (repeat (first | (with_reducible assumption) | (with_reducible apply Blk.new'; (first | (with_reducible rfl) | (simp; done))) | with_reducible apply Blk.alloc | with_reducible apply Blk.set | ((with_reducible apply Blk.set_ne); focus (first | (simp; done) | (simp; omega))) | with_reducible apply Blk.drewN | with_reducible apply Blk.drew)), Blk.alloc (Blk.new' (by simp)), Blk.new' (by simp)⟩ (fun W1 V1 => ?_)
  obtain ⟨HB1, L1, Z1, M1⟩ := V1
  obtain ⟨b, hb⟩ : ∃ b, w.heap.size = b := ⟨_, rfl⟩
  have HBb := Lib.hid hb
  rw [hb] at HB1 L1 M1 Z1 ⊢
  clear hb
  go_wp2_with fail
  go_loopg [7] 16 (fun gk t7 wr => ∃ (i : Nat) (x : List UInt8), i + gk = 16 ∧ t7 = .int .i64 (i : Int) ∧ Below b w wr ∧ Blk wr b (bcells l) 25 ∧ Blk wr (b + 1) z16 25 ∧ Blk wr (b + 1 + 1) (bcells x) 25 ∧ Fill (mixedL l) (List.replicate 16 0) x 16 i)
  case atStart => exact ⟨0, _, rfl, rfl, HB1, L1, Z1, M1, .start (by simp)⟩
  case round =>
    clear HB1 L1 M1 Z1 hls
    obtain ⟨i, x, hi, rfl, HB, L, Z, M, F⟩ := hrel
    cases gk with
    | zero =>
      obtain rfl : i = 16 := by omega
      clear hi
      rw [F.all (mixedL_len l)] at M
      have hrs := bcells_len (mixedL l) (mixedL_len l)
      have hone := bcells_one (mixedL l)
      obtain ⟨R, hR⟩ : ∃ R, bcells (mixedL l) = R := ⟨_, rfl⟩
      rw [hR] at M hrs hone
      clear F
      go_wp2_with (first | (refine wpList_load_row rfl 25 _ rfl (b + 1 + 1) rfl 25 _ (0, 0) _ M.out Try.underlying25 rfl (by rw [hrs]; kernel_rfl) ?_) | (refine wpList_put rfl 25 _ _ rfl (b + 1) _ _ 25 rfl rfl Z (by rw [hrs]; kernel_rfl) (hrs.trans rfl) hone (fun W9 hp9 B9 => ?_)))
      refine bodyPost_ret (v := .agg R) ?_ rfl ⟨by rw [hR], by rw [HBb.out]; exact hp9.below (by omega) HB⟩
      exact results_cell_row (Try.results62) _ _ (b + 1) 25 _ (0, 0) _ rfl B9.out Try.underlying25 rfl (by rw [hrs]; kernel_rfl)
    | succ g =>
      have hi16 : (i : Int) < 16 := by omega
      have hin : i < 16 := by omega
      have F2 := F.step hin
      rw [mixedL_get l i hin] at F2
      have HBs : b ≤ wr.heap.size := by rw [← HBb.out]; exact HB.size
      obtain ⟨c, hc⟩ : ∃ c, i / 4 * 4 = c := ⟨_, rfl⟩
      have hand := andnot3 i hin
      rw [hc] at hand
      go_upto_region 7 with fail
      refine wp_absQ (fun W => Below b w W ∧ Blk W b (bcells l) 25 ∧ Blk W (b + 1) z16 25 ∧ Blk W (b + 1 + 1) (bcells x) 25 ∧ W.cell? ⟨wr.heap.size, 0, none⟩ = some (.int .i64 (i : Int)) ∧ W.cell? ⟨wr.heap.size + 1, 0, none⟩ = some (.int .i64 (c : Int)) ∧ b + 1 + 1 < wr.heap.size ∧ b ≤ W.heap.size) ⟨by (repeat (first | (with_reducible assumption) | (with_reducible exact Below.refl _ _) | with_reducible apply bl_drewN | with_reducible apply Below.drew | (with_reducible apply bl_alloc; focus (first | (simp; done) | (simp; omega) | omega)) | (with_reducible apply bl_set; focus (first | (simp; done) | (simp; omega) | omega)))), Blk.alloc (Blk.alloc L), Blk.alloc (Blk.alloc Z), Blk.alloc (Blk.alloc M), by simp, by simp, M.lt, by simp; omega⟩ (fun W7 V7 => ?_)
      obtain ⟨wi, hwi⟩ : ∃ wi, wr.heap.size = wi := ⟨_, rfl⟩
      rw [hwi] at V7 ⊢
      clear hwi L Z M HB HBs
      obtain ⟨HB7, L7, Z7, M7, I7, C7, hwl, HBs⟩ := V7
      have hc16 : c ≤ 12 := by omega
      have at0 : ∀ W, Gr W7 W → Calls Try.prog 85 #[.int .i64 0, .pointer (some ⟨b, 0, none⟩), .pointer (some ⟨wi + 1, 0, none⟩), .pointer (some ⟨wi, 0, none⟩)] W fun e w' => e = .returned (.int .u8 (((l.getD (c + (i + 0) % 4) 0).toNat : Nat) : Int)) ∧ Below W.heap.size W w' := fun W hq =>
        at_any l hl b (wi + 1) wi i c 0 _ rfl (by omega) hin (by decide) W (L7.gr hq) (hq.cell C7) (hq.cell I7)
      obtain ⟨g0, hg0⟩ : ∃ g, l.getD (c + (i + 0) % 4) 0 = g := ⟨_, rfl⟩
      rw [hg0] at at0
      have AT0 := Lib.hid at0
      have at1 : ∀ W, Gr W7 W → Calls Try.prog 85 #[.int .i64 1, .pointer (some ⟨b, 0, none⟩), .pointer (some ⟨wi + 1, 0, none⟩), .pointer (some ⟨wi, 0, none⟩)] W fun e w' => e = .returned (.int .u8 (((l.getD (c + (i + 1) % 4) 0).toNat : Nat) : Int)) ∧ Below W.heap.size W w' := fun W hq =>
        at_any l hl b (wi + 1) wi i c 1 _ rfl (by omega) hin (by decide) W (L7.gr hq) (hq.cell C7) (hq.cell I7)
      obtain ⟨g1, hg1⟩ : ∃ g, l.getD (c + (i + 1) % 4) 0 = g := ⟨_, rfl⟩
      rw [hg1] at at1
      have AT1 := Lib.hid at1
      have at2 : ∀ W, Gr W7 W → Calls Try.prog 85 #[.int .i64 2, .pointer (some ⟨b, 0, none⟩), .pointer (some ⟨wi + 1, 0, none⟩), .pointer (some ⟨wi, 0, none⟩)] W fun e w' => e = .returned (.int .u8 (((l.getD (c + (i + 2) % 4) 0).toNat : Nat) : Int)) ∧ Below W.heap.size W w' := fun W hq =>
        at_any l hl b (wi + 1) wi i c 2 _ rfl (by omega) hin (by decide) W (L7.gr hq) (hq.cell C7) (hq.cell I7)
      obtain ⟨g2, hg2⟩ : ∃ g, l.getD (c + (i + 2) % 4) 0 = g := ⟨_, rfl⟩
      rw [hg2] at at2
      have AT2 := Lib.hid at2
      have at3 : ∀ W, Gr W7 W → Calls Try.prog 85 #[.int .i64 3, .pointer (some ⟨b, 0, none⟩), .pointer (some ⟨wi + 1, 0, none⟩), .pointer (some ⟨wi, 0, none⟩)] W fun e w' => e = .returned (.int .u8 (((l.getD (c + (i + 3) % 4) 0).toNat : Nat) : Int)) ∧ Below W.heap.size W w' := fun W hq =>
        at_any l hl b (wi + 1) wi i c 3 _ rfl (by omega) hin (by decide) W (L7.gr hq) (hq.cell C7) (hq.cell I7)
      obtain ⟨g3, hg3⟩ : ∃ g, l.getD (c + (i + 3) % 4) 0 = g := ⟨_, rfl⟩
      rw [hg3] at at3
      have AT3 := Lib.hid at3
      have hmix : mixAt l i = timesL g0 2 ^^^ timesL g1 3 ^^^ g2 ^^^ g3 := by
        unfold mixAt
        simp only [hc, hg0, hg1, hg2, hg3]
      rw [hmix] at F2
      have tm0 := fun W => times_any g0 2 W
      have tm1 := fun W => times_any g1 3 W
      rw [show (((2 : UInt8).toNat : Nat) : Int) = 2 from rfl] at tm0
      rw [show (((3 : UInt8).toNat : Nat) : Int) = 3 from rfl] at tm1
      obtain ⟨p0, hp0⟩ : ∃ p, timesL g0 2 = p := ⟨_, rfl⟩
      obtain ⟨p1, hp1⟩ : ∃ p, timesL g1 3 = p := ⟨_, rfl⟩
      rw [hp0] at tm0 F2; rw [hp1] at tm1 F2
      have e1 := sum_xor8 p0 p1
      obtain ⟨q1, hq1⟩ : ∃ q, p0 ^^^ p1 = q := ⟨_, rfl⟩
      rw [hq1] at e1 F2
      have e2 := sum_xor8 q1 g2
      obtain ⟨q2, hq2⟩ : ∃ q, q1 ^^^ g2 = q := ⟨_, rfl⟩
      rw [hq2] at e2 F2
      have e3 := sum_xor8 q2 g3
      obtain ⟨v, hv⟩ : ∃ q, q2 ^^^ g3 = q := ⟨_, rfl⟩
      rw [hv] at e3 F2
      have TM0 := Lib.hid tm0; have TM1 := Lib.hid tm1
      have HI := Lib.hid hi; have HF := Lib.hid F2
      have c4 : W7.cell? ⟨b + 1 + 1, i, none⟩ = _ := M7.cell i
      rw [bcells_get x i (by rw [F.len]; exact hin)] at c4
      clear at0 at1 at2 at3 hg0 hg1 hg2 hg3 hmix tm0 tm1 hp0 hp1 hq1 hq2 hv hi F2 F hc hand
      refine wp_region_typed 15 (fun k => match k with  | _ => []) (fun k => match k with  | _ => false) (fun k => match k with | 2 => some ⟨(Unit), (()), (fun _ => .int .u8 ((g0.toNat : Nat) : Int)), (fun _ _ => True), (fun _ _ _ h _ => h)⟩ | 3 => some ⟨(Unit), (()), (fun _ => .int .u8 ((p0.toNat : Nat) : Int)), (fun _ _ => True), (fun _ _ _ h _ => h)⟩ | 5 => some ⟨(Unit), (()), (fun _ => .int .u8 ((g1.toNat : Nat) : Int)), (fun _ _ => True), (fun _ _ _ h _ => h)⟩ | 6 => some ⟨(Unit), (()), (fun _ => .int .u8 ((p1.toNat : Nat) : Int)), (fun _ _ => True), (fun _ _ _ h _ => h)⟩ | 9 => some ⟨(Unit), (()), (fun _ => .int .u8 ((g2.toNat : Nat) : Int)), (fun _ _ => True), (fun _ _ _ h _ => h)⟩ | 12 => some ⟨(Unit), (()), (fun _ => .int .u8 ((g3.toNat : Nat) : Int)), (fun _ _ => True), (fun _ _ _ h _ => h)⟩ | _ => none) (by kernel_rfl) (by kernel_rfl) (by intro d0 v0 c0 a0 w0 h0; first | (cases d0 <;> exact h0) | exact hP _ _ _ _ _ h0) ?_
      rw [show List.range 15 = [0, 1, 2, 3, 4, 5, 6, 7, 8, 9, 10, 11, 12, 13, 14] from rfl]
      first
        | (refine ty_skip rfl rfl ?_; (try simp only [Act.put, List.setIfInBounds_toArray, List.set_cons_zero, List.set_cons_succ]))
        | (refine ty_pure rfl rfl rfl rfl ?_; apply Exists.intro; refine ⟨fun wq hq hk => ?_, ?_⟩
           · have f0 := hq.cell I7; simp only [pureAt]; go_simp; (try simp only [↓IntWalk.iteOmega]); (try go_bits); (try simp only [pureUpon]); (first | done | exact ⟨rfl, rfl⟩ | exact ⟨trivial, rfl⟩ | rfl)
           (try simp only [Act.put, List.setIfInBounds_toArray, List.set_cons_zero, List.set_cons_succ]))
      first
        | (refine ty_skip rfl rfl ?_; (try simp only [Act.put, List.setIfInBounds_toArray, List.set_cons_zero, List.set_cons_succ]))
        | (refine ty_pure rfl rfl rfl rfl ?_; apply Exists.intro; refine ⟨fun wq hq hk => ?_, ?_⟩
           · have f0 := hq.cell I7; simp only [pureAt]; go_simp; (try simp only [↓IntWalk.iteOmega]); (try go_bits); (try simp only [pureUpon]); (first | done | exact ⟨rfl, rfl⟩ | exact ⟨trivial, rfl⟩ | rfl)
           (try simp only [Act.put, List.setIfInBounds_toArray, List.set_cons_zero, List.set_cons_succ]))
      refine ty_rel rfl rfl _ rfl rfl (fun wq hq hk => ?_) ?_
      · have f0 := hq.cell I7; simp only [relAt]; go_simp; (try simp only [relUpon]); (go_at_call 85; refine (AT0.out wq hq).mono ?_; rintro e w9 ⟨rfl, hb9⟩; exact ⟨_, rfl, .mk hb9 () rfl trivial⟩)
      rintro ⟨⟩
      (try simp only [Act.put, List.setIfInBounds_toArray, List.set_cons_zero, List.set_cons_succ])
      refine ty_rel rfl rfl _ rfl rfl (fun wq hq hk => ?_) ?_
      · have f0 := hq.cell I7; simp only [relAt]; go_simp; (try simp only [relUpon]); (go_at_call 50; refine (TM0.out wq).mono ?_; rintro e w9 ⟨rfl, hb9⟩; exact ⟨_, rfl, .mk hb9 () rfl trivial⟩)
      rintro ⟨⟩
      (try simp only [Act.put, List.setIfInBounds_toArray, List.set_cons_zero, List.set_cons_succ])
      first
        | (refine ty_skip rfl rfl ?_; (try simp only [Act.put, List.setIfInBounds_toArray, List.set_cons_zero, List.set_cons_succ]))
        | (refine ty_pure rfl rfl rfl rfl ?_; apply Exists.intro; refine ⟨fun wq hq hk => ?_, ?_⟩
           · have f0 := hq.cell I7; simp only [pureAt]; go_simp; (try simp only [↓IntWalk.iteOmega]); (try go_bits); (try simp only [pureUpon]); (first | done | exact ⟨rfl, rfl⟩ | exact ⟨trivial, rfl⟩ | rfl)
           (try simp only [Act.put, List.setIfInBounds_toArray, List.set_cons_zero, List.set_cons_succ]))
      refine ty_rel rfl rfl _ rfl rfl (fun wq hq hk => ?_) ?_
      · have f0 := hq.cell I7; simp only [relAt]; go_simp; (try simp only [relUpon]); (go_at_call 85; refine (AT1.out wq hq).mono ?_; rintro e w9 ⟨rfl, hb9⟩; exact ⟨_, rfl, .mk hb9 () rfl trivial⟩)
      rintro ⟨⟩
      (try simp only [Act.put, List.setIfInBounds_toArray, List.set_cons_zero, List.set_cons_succ])
      refine ty_rel rfl rfl _ rfl rfl (fun wq hq hk => ?_) ?_
      · have f0 := hq.cell I7; simp only [relAt]; go_simp; (try simp only [relUpon]); (go_at_call 50; refine (TM1.out wq).mono ?_; rintro e w9 ⟨rfl, hb9⟩; exact ⟨_, rfl, .mk hb9 () rfl trivial⟩)
      rintro ⟨⟩
      (try simp only [Act.put, List.setIfInBounds_toArray, List.set_cons_zero, List.set_cons_succ])
      first
        | (refine ty_skip rfl rfl ?_; (try simp only [Act.put, List.setIfInBounds_toArray, List.set_cons_zero, List.set_cons_succ]))
        | (refine ty_pure rfl rfl rfl rfl ?_; apply Exists.intro; refine ⟨fun wq hq hk => ?_, ?_⟩
           · have f0 := hq.cell I7; simp only [pureAt]; go_simp; (try simp only [↓IntWalk.iteOmega]); (try go_bits); (try simp only [pureUpon]); (first | done | exact ⟨rfl, rfl⟩ | exact ⟨trivial, rfl⟩ | rfl)
           (try simp only [Act.put, List.setIfInBounds_toArray, List.set_cons_zero, List.set_cons_succ]))
      first
        | (refine ty_skip rfl rfl ?_; (try simp only [Act.put, List.setIfInBounds_toArray, List.set_cons_zero, List.set_cons_succ]))
        | (refine ty_pure rfl rfl rfl rfl ?_; apply Exists.intro; refine ⟨fun wq hq hk => ?_, ?_⟩
           · have f0 := hq.cell I7; simp only [pureAt]; go_simp; (try simp only [↓IntWalk.iteOmega]); (try go_bits); (try simp only [pureUpon]); (first | done | exact ⟨rfl, rfl⟩ | exact ⟨trivial, rfl⟩ | rfl)
           (try simp only [Act.put, List.setIfInBounds_toArray, List.set_cons_zero, List.set_cons_succ]))
      refine ty_rel rfl rfl _ rfl rfl (fun wq hq hk => ?_) ?_
      · have f0 := hq.cell I7; simp only [relAt]; go_simp; (try simp only [relUpon]); (go_at_call 85; refine (AT2.out wq hq).mono ?_; rintro e w9 ⟨rfl, hb9⟩; exact ⟨_, rfl, .mk hb9 () rfl trivial⟩)
      rintro ⟨⟩
      (try simp only [Act.put, List.setIfInBounds_toArray, List.set_cons_zero, List.set_cons_succ])
      first
        | (refine ty_skip rfl rfl ?_; (try simp only [Act.put, List.setIfInBounds_toArray, List.set_cons_zero, List.set_cons_succ]))
        | (refine ty_pure rfl rfl rfl rfl ?_; apply Exists.intro; refine ⟨fun wq hq hk => ?_, ?_⟩
           · have f0 := hq.cell I7; simp only [pureAt]; go_simp; (try simp only [↓IntWalk.iteOmega]); (try go_bits); (try simp only [pureUpon]); (first | done | exact ⟨rfl, rfl⟩ | exact ⟨trivial, rfl⟩ | rfl)
           (try simp only [Act.put, List.setIfInBounds_toArray, List.set_cons_zero, List.set_cons_succ]))
      first
        | (refine ty_skip rfl rfl ?_; (try simp only [Act.put, List.setIfInBounds_toArray, List.set_cons_zero, List.set_cons_succ]))
        | (refine ty_pure rfl rfl rfl rfl ?_; apply Exists.intro; refine ⟨fun wq hq hk => ?_, ?_⟩
           · have f0 := hq.cell I7; simp only [pureAt]; go_simp; (try simp only [↓IntWalk.iteOmega]); (try go_bits); (try simp only [pureUpon]); (first | done | exact ⟨rfl, rfl⟩ | exact ⟨trivial, rfl⟩ | rfl)
           (try simp only [Act.put, List.setIfInBounds_toArray, List.set_cons_zero, List.set_cons_succ]))
      refine ty_rel rfl rfl _ rfl rfl (fun wq hq hk => ?_) ?_
      · have f0 := hq.cell I7; simp only [relAt]; go_simp; (try simp only [relUpon]); (go_at_call 85; refine (AT3.out wq hq).mono ?_; rintro e w9 ⟨rfl, hb9⟩; exact ⟨_, rfl, .mk hb9 () rfl trivial⟩)
      rintro ⟨⟩
      (try simp only [Act.put, List.setIfInBounds_toArray, List.set_cons_zero, List.set_cons_succ])
      first
        | (refine ty_skip rfl rfl ?_; (try simp only [Act.put, List.setIfInBounds_toArray, List.set_cons_zero, List.set_cons_succ]))
        | (refine ty_pure rfl rfl rfl rfl ?_; apply Exists.intro; refine ⟨fun wq hq hk => ?_, ?_⟩
           · have f0 := hq.cell I7; simp only [pureAt]; go_simp; (try simp only [↓IntWalk.iteOmega]); (try go_bits); (try simp only [pureUpon]); (first | done | exact ⟨rfl, rfl⟩ | exact ⟨trivial, rfl⟩ | rfl)
           (try simp only [Act.put, List.setIfInBounds_toArray, List.set_cons_zero, List.set_cons_succ]))
      first
        | (refine ty_skip rfl rfl ?_; (try simp only [Act.put, List.setIfInBounds_toArray, List.set_cons_zero, List.set_cons_succ]))
        | (refine ty_pure rfl rfl rfl rfl ?_; apply Exists.intro; refine ⟨fun wq hq hk => ?_, ?_⟩
           · have f0 := hq.cell I7; simp only [pureAt]; go_simp; (try simp only [↓IntWalk.iteOmega]); (try go_bits); (try simp only [pureUpon]); (first | done | exact ⟨rfl, rfl⟩ | exact ⟨trivial, rfl⟩ | rfl)
           (try simp only [Act.put, List.setIfInBounds_toArray, List.set_cons_zero, List.set_cons_succ]))
      refine ty_nil ?_
      simp only [List.drop_succ_cons, List.drop_zero]
      intro W8 hw8 hΓ
      clear hΓ
      have c5 := hw8.cell c4
      have f5 := (M7.gr hw8).frozen i
      have HB8 := Below.thn HB7 hw8.out HBs
      have M9 := (M7.gr hw8).set (o := i) (v := .int .u8 ((v.toNat : Nat) : Int))
      rw [bcells_set] at M9
      have L9 := (L7.gr hw8).set_ne (a := ⟨b + 1 + 1, i, none⟩) (v := .int .u8 ((v.toNat : Nat) : Int)) (by show b ≠ b + 1 + 1; omega)
      have Z9 := (Z7.gr hw8).set_ne (a := ⟨b + 1 + 1, i, none⟩) (v := .int .u8 ((v.toNat : Nat) : Int)) (by show b + 1 ≠ b + 1 + 1; omega)
      have HB9 := HB8.setCell (p := ⟨b + 1 + 1, i, none⟩) (by show b ≤ b + 1 + 1; omega) (.int .u8 ((v.toNat : Nat) : Int))
      clear HB7 L7 M7 Z7 I7 C7 c4 hw8 HB8 HBs e1 e2 e3
      go_wp2_with fail
      go_roundg g
      case rel => exact ⟨i + 1, _, by have := HI.out; omega, by simp, HB9, L9, Z9, M9, HF.out⟩
      case measure => omega
end Go.Proofs.Ytkblkdojmfgneaa
