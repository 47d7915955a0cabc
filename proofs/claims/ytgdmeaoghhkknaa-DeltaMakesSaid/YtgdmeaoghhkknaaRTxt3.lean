/- Parse, of package screen. -/
import Derived.Test.YtgdmeaoghhkknaaRTxt2
import Derived.Test.YtgdmeaoghhkknaaPut
namespace Go.Proofs.Ytgdmeaoghhkknaa
open Go.RowKit

set_option maxHeartbeats 8000000 in
set_option maxRecDepth 20000 in
theorem parse_any (t : ByteArray) (w : World) (ht : t.size ≤ 100000) : Calls Try.prog 21 #[.string t] w fun e w' => e = .returned (pv (parseS t)) ∧ Below w.heap.size w w' := by
  by_cases h4 : t.size < 4
  · have g4 : (t.size : Int) < 4 := by omega
    rw [parse_none t (fun h => by have := h.1; omega)]
    unfold pv
    clear h4
    go_enter Try.func21, Try.ntmps21
    go_wp2_with fail
    refine bodyPost_ret (v := .tuple #[VV 0 0 0 0 ⟨#[]⟩, .int .i64 4]) ?_ rfl ⟨rfl, ?_⟩
    · simp [results, Try.results21, go_sem]
    · repeat (first | (with_reducible assumption) | (with_reducible exact Below.refl _ _) | with_reducible apply bl_drewN | with_reducible apply Below.drew | (with_reducible apply bl_alloc; focus (first | (simp; done) | (simp; omega) | omega)) | (with_reducible apply bl_set; focus (first | (simp; done) | (simp; omega) | omega)))
  have g4 : ¬ (t.size : Int) < 4 := by omega
  have l0 : 0 < t.size := by omega
  have l1 : 1 < t.size := by omega
  have l2 : 2 < t.size := by omega
  have l3 : 3 < t.size := by omega
  have k0 : (0 : Int) < t.size := by omega
  have k1 : (1 : Int) < t.size := by omega
  have k2 : (2 : Int) < t.size := by omega
  have k3 : (3 : Int) < t.size := by omega
  obtain ⟨c0, i0⟩ : ∃ c, t[0] = c := ⟨_, rfl⟩
  obtain ⟨c1, i1⟩ : ∃ c, t[1] = c := ⟨_, rfl⟩
  obtain ⟨c2, i2⟩ : ∃ c, t[2] = c := ⟨_, rfl⟩
  obtain ⟨c3, i3⟩ : ∃ c, t[3] = c := ⟨_, rfl⟩
  have m0 : c0.toNat ≤ 255 := by have := c0.toNat_lt; omega
  have m1 : c1.toNat ≤ 255 := by have := c1.toNat_lt; omega
  have m2 : c2.toNat ≤ 255 := by have := c2.toNat_lt; omega
  have m3 : c3.toNat ≤ 255 := by have := c3.toNat_lt; omega
  have B0 := Lib.hid (bt_get t 0 l0 c0 i0)
  have B1 := Lib.hid (bt_get t 1 l1 c1 i1)
  have B2 := Lib.hid (bt_get t 2 l2 c2 i2)
  have B3 := Lib.hid (bt_get t 3 l3 c3 i3)
  by_cases hdim : 1 ≤ c0.toNat ∧ c0.toNat ≤ 80 ∧ 1 ≤ c1.toNat ∧ c1.toNat ≤ 24
  · obtain ⟨d1, d2, d3, d4⟩ := hdim
    obtain ⟨cw, hcw⟩ : ∃ n, c0.toNat = n := ⟨_, rfl⟩
    obtain ⟨ch, hch⟩ : ∃ n, c1.toNat = n := ⟨_, rfl⟩
    obtain ⟨n, hn⟩ : ∃ n, cw * ch = n := ⟨_, rfl⟩
    have hn2 : n ≤ 1920 := by rw [← hn, ← hcw, ← hch]; exact wh_small d2 d4
    obtain ⟨bl, hbl⟩ : ∃ bl, txt (List.replicate n 32) = bl := ⟨_, rfl⟩
    have hbls : (bl.size : Int) = n := by rw [← hbl, txt_size, List.length_replicate]
    have hN : ∀ W, Calls Try.prog 12 #[.int .i64 cw, .int .i64 ch] W fun e w' => e = .returned (.tuple #[VV cw ch 0 0 bl, .int .i64 0]) ∧ Below W.heap.size W w' := fun W => by
      have h5 := new_any c0.toNat c1.toNat W d1 d2 d3 d4
      unfold newS at h5
      rw [hcw, hch, hn] at h5
      rw [← hbl]; exact h5
    have HN := Lib.hid hN
    have HNN := Lib.hid hn
    rw [hcw] at d1 d2 m0 B0
    rw [hch] at d3 d4 m1 B1
    have HCW := Lib.hid (And.intro hcw hch)
    clear h4 hN hbl hn
    by_cases e1 : (t.size : Int) = 4 + n
    · have q1 : ((t.size : Int) != 4 + n) = false := by simp [e1]
      by_cases e2 : (cw : Int) ≤ c2.toNat
      · have q2 : decide (cw ≤ c2.toNat) = true := decide_eq_true (by omega)
        rw [parse_none t (fun h => by have h5 := h.2.2.2.1; rw [B0.out, B2.out] at h5; omega)]
        unfold pv
        go_enter Try.func21, Try.ntmps21
        go_upto_region 3 with fail
        refine wp_absQ (fun W => Below w.heap.size w W ∧ w.heap.size < W.heap.size ∧ Blk W w.heap.size #[.int .i64 0, .int .i64 0, .int .i64 0, .int .i64 0, .string ⟨#[]⟩] 24) ⟨by (repeat (first | (with_reducible assumption) | (with_reducible exact Below.refl _ _) | with_reducible apply bl_drewN | with_reducible apply Below.drew | (with_reducible apply bl_alloc; focus (first | (simp; done) | (simp; omega) | omega)) | (with_reducible apply bl_set; focus (first | (simp; done) | (simp; omega) | omega)))), by simp, by (repeat (first | (with_reducible assumption) | (with_reducible apply Blk.new'; (first | (with_reducible rfl) | (simp; done))) | with_reducible apply Blk.alloc | with_reducible apply Blk.set | ((with_reducible apply Blk.set_ne); focus (first | (simp; done) | (simp; omega))) | with_reducible apply Blk.drewN | with_reducible apply Blk.drew))⟩ (fun W1 h5 => ?_)
        obtain ⟨HB1, HL1, Q1⟩ := h5
        have HB1s := HB1.size
        refine wp_region_typed 11 (fun k => match k with  | _ => []) (fun k => match k with | 9 => true | _ => false) (fun k => match k with | 6 => some ⟨(Unit), (()), (fun _ => .tuple #[VV cw ch 0 0 bl, .int .i64 0]), (fun _ _ => True), (fun _ _ _ h _ => h)⟩ | 10 => some ⟨(Nat), (0), (fun b => .pointer (some ⟨b, 0, none⟩)), (fun b w => W1.heap.size ≤ b ∧ Blk w b #[.int .i64 0, .int .i64 0, .int .i64 0, .int .i64 0, .string ⟨#[]⟩] 24), (fun b w w' h hb => ⟨h.1, h.2.below hb⟩)⟩ | _ => none) (by kernel_rfl) (by kernel_rfl) (by intro d0 v0 c0 a0 w0 h0; cases d0 <;> exact h0) ?_
        rw [show List.range 11 = [0, 1, 2, 3, 4, 5, 6, 7, 8, 9, 10] from rfl]
        first
          | (refine ty_skip rfl rfl ?_; (try simp only [Act.put, List.setIfInBounds_toArray, List.set_cons_zero, List.set_cons_succ]))
          | (refine ty_pure rfl rfl rfl rfl ?_; apply Exists.intro; refine ⟨fun wq hq hk => ?_, ?_⟩
             · have f0 := hq.blk Q1; simp only [pureAt]; go_simp; (try simp only [↓IntWalk.iteOmega]); (try go_bits); (try simp only [pureUpon]); (first | done | exact ⟨rfl, rfl⟩ | exact ⟨trivial, rfl⟩ | rfl)
             (try simp only [Act.put, List.setIfInBounds_toArray, List.set_cons_zero, List.set_cons_succ]))
        first
          | (refine ty_skip rfl rfl ?_; (try simp only [Act.put, List.setIfInBounds_toArray, List.set_cons_zero, List.set_cons_succ]))
          | (refine ty_pure rfl rfl rfl rfl ?_; apply Exists.intro; refine ⟨fun wq hq hk => ?_, ?_⟩
             · have f0 := hq.blk Q1; simp only [pureAt]; go_simp; (try simp only [↓IntWalk.iteOmega]); (try go_bits); (try simp only [pureUpon]); (first | done | exact ⟨rfl, rfl⟩ | exact ⟨trivial, rfl⟩ | rfl)
             (try simp only [Act.put, List.setIfInBounds_toArray, List.set_cons_zero, List.set_cons_succ]))
        first
          | (refine ty_skip rfl rfl ?_; (try simp only [Act.put, List.setIfInBounds_toArray, List.set_cons_zero, List.set_cons_succ]))
          | (refine ty_pure rfl rfl rfl rfl ?_; apply Exists.intro; refine ⟨fun wq hq hk => ?_, ?_⟩
             · have f0 := hq.blk Q1; simp only [pureAt]; go_simp; (try simp only [↓IntWalk.iteOmega]); (try go_bits); (try simp only [pureUpon]); (first | done | exact ⟨rfl, rfl⟩ | exact ⟨trivial, rfl⟩ | rfl)
             (try simp only [Act.put, List.setIfInBounds_toArray, List.set_cons_zero, List.set_cons_succ]))
        first
          | (refine ty_skip rfl rfl ?_; (try simp only [Act.put, List.setIfInBounds_toArray, List.set_cons_zero, List.set_cons_succ]))
          | (refine ty_pure rfl rfl rfl rfl ?_; apply Exists.intro; refine ⟨fun wq hq hk => ?_, ?_⟩
             · have f0 := hq.blk Q1; simp only [pureAt]; go_simp; (try simp only [↓IntWalk.iteOmega]); (try go_bits); (try simp only [pureUpon]); (first | done | exact ⟨rfl, rfl⟩ | exact ⟨trivial, rfl⟩ | rfl)
             (try simp only [Act.put, List.setIfInBounds_toArray, List.set_cons_zero, List.set_cons_succ]))
        first
          | (refine ty_skip rfl rfl ?_; (try simp only [Act.put, List.setIfInBounds_toArray, List.set_cons_zero, List.set_cons_succ]))
          | (refine ty_pure rfl rfl rfl rfl ?_; apply Exists.intro; refine ⟨fun wq hq hk => ?_, ?_⟩
             · have f0 := hq.blk Q1; simp only [pureAt]; go_simp; (try simp only [↓IntWalk.iteOmega]); (try go_bits); (try simp only [pureUpon]); (first | done | exact ⟨rfl, rfl⟩ | exact ⟨trivial, rfl⟩ | rfl)
             (try simp only [Act.put, List.setIfInBounds_toArray, List.set_cons_zero, List.set_cons_succ]))
        first
          | (refine ty_skip rfl rfl ?_; (try simp only [Act.put, List.setIfInBounds_toArray, List.set_cons_zero, List.set_cons_succ]))
          | (refine ty_pure rfl rfl rfl rfl ?_; apply Exists.intro; refine ⟨fun wq hq hk => ?_, ?_⟩
             · have f0 := hq.blk Q1; simp only [pureAt]; go_simp; (try simp only [↓IntWalk.iteOmega]); (try go_bits); (try simp only [pureUpon]); (first | done | exact ⟨rfl, rfl⟩ | exact ⟨trivial, rfl⟩ | rfl)
             (try simp only [Act.put, List.setIfInBounds_toArray, List.set_cons_zero, List.set_cons_succ]))
        refine ty_rel rfl rfl _ rfl rfl (fun wq hq hk => ?_) ?_
        · have f0 := hq.blk Q1; simp only [relAt]; go_simp; (try simp only [relUpon]); (go_at_call 12; refine (HN.out _).mono ?_; rintro e w9 ⟨rfl, hb9⟩; exact ⟨_, rfl, .mk hb9 () rfl trivial⟩)
        rintro ⟨⟩
        (try simp only [Act.put, List.setIfInBounds_toArray, List.set_cons_zero, List.set_cons_succ])
        first
          | (refine ty_skip rfl rfl ?_; (try simp only [Act.put, List.setIfInBounds_toArray, List.set_cons_zero, List.set_cons_succ]))
          | (refine ty_pure rfl rfl rfl rfl ?_; apply Exists.intro; refine ⟨fun wq hq hk => ?_, ?_⟩
             · have f0 := hq.blk Q1; simp only [pureAt]; go_simp; (try simp only [↓IntWalk.iteOmega]); (try go_bits); (try simp only [pureUpon]); (first | done | exact ⟨rfl, rfl⟩ | exact ⟨trivial, rfl⟩ | rfl)
             (try simp only [Act.put, List.setIfInBounds_toArray, List.set_cons_zero, List.set_cons_succ]))
        first
          | (refine ty_skip rfl rfl ?_; (try simp only [Act.put, List.setIfInBounds_toArray, List.set_cons_zero, List.set_cons_succ]))
          | (refine ty_pure rfl rfl rfl rfl ?_; apply Exists.intro; refine ⟨fun wq hq hk => ?_, ?_⟩
             · have f0 := hq.blk Q1; simp only [pureAt]; go_simp; (try simp only [↓IntWalk.iteOmega]); (try go_bits); (try simp only [pureUpon]); (first | done | exact ⟨rfl, rfl⟩ | exact ⟨trivial, rfl⟩ | rfl)
             (try simp only [Act.put, List.setIfInBounds_toArray, List.set_cons_zero, List.set_cons_succ]))
        first
          | (refine ty_skip rfl rfl ?_; (try simp only [Act.put, List.setIfInBounds_toArray, List.set_cons_zero, List.set_cons_succ]))
          | (refine ty_late rfl rfl rfl ?_; apply Exists.intro; refine ⟨fun wq => ?_, ?_⟩
             · simp only [pureAt]; go_simp; (try simp only [↓IntWalk.iteOmega]); (try go_bits); (try simp only [pureUpon]); (first | done | exact ⟨rfl, rfl⟩ | exact ⟨trivial, rfl⟩ | rfl)
             (try simp only [Act.put, List.setIfInBounds_toArray, List.set_cons_zero, List.set_cons_succ]))
        refine ty_rel rfl rfl _ rfl rfl (fun wq hq hk => ?_) ?_
        · have f0 := hq.blk Q1; simp only [relAt]; go_simp; (try simp only [relUpon]); exact .mk ((Below.refl _ _).alloc (Nat.le_refl _) _) wq.heap.size rfl ⟨hq.size, Blk.new wq _ _⟩
        rintro (b10 : Nat)
        (try simp only [Act.put, List.setIfInBounds_toArray, List.set_cons_zero, List.set_cons_succ])
        refine ty_nil ?_
        simp only [List.drop_succ_cons, List.drop_zero]
        intro W8 hw8 hΓ
        have A10 : W1.heap.size ≤ b10 ∧ Blk W8 b10 #[.int .i64 0, .int .i64 0, .int .i64 0, .int .i64 0, .string ⟨#[]⟩] 24 := hΓ _ (.head _)
        have HB8 := Below.thn HB1 hw8.out HB1s
        have Q18 := Q1.below hw8.out
        have n1 : w.heap.size ≠ b10 := by have := A10.1; omega
        have g10 : w.heap.size ≤ b10 := by omega
        clear hΓ hw8 HB1 Q1
        refine wpList_put rfl 24 _ _ rfl b10 _ _ 24 rfl rfl A10.2 (by kernel_rfl) rfl (by first | rfl | decide | simp [Value.oneCell']) (fun W9 hp9 B9 => ?_)
        (try simp only [Act.put])
        have HB9 := hp9.below g10 HB8
        have Q19 := hp9.blk n1 Q18
        have HB9s := HB9.size
        clear A10 HB8 Q18 hp9 HB1s HL1
        go_wp2_with fail
        refine wp_region_gr (by kernel_rfl) (by kernel_rfl) ?_
        repeat (first
          | go_big_quiet_skip
          | ((refine BigFrame.wpQuiet_want rfl (fun K hK => quiet_mk ?_)); apply Exists.intro; refine ⟨fun wq hq => ?_, hK _ ?_⟩
             · have f0 := hq.blk B9; go_simp; (try simp only [↓IntWalk.iteOmega]); (try go_bits)
               first | done | rfl | exact ⟨rfl, rfl⟩ | exact ⟨trivial, rfl⟩
             clear hK K; (try simp only [Act.put, List.setIfInBounds_toArray, List.set_cons_zero, List.set_cons_succ])))
        refine wpQuiet_nil ?_
        intro W4 hw4
        have HB4 := Below.thn HB9 hw4.out HB9s
        have B4 := B9.below hw4.out
        have Q4 := Q19.below hw4.out
        have HB4s := HB4.size
        have Q4c := Q4.cell; have Q4f := Q4.frozen; have Q4l := Q4.lt
        clear HB9 B9 Q19 HB9s hw4
        go_wp2_with fail
        refine bodyPost_ret (v := .tuple #[VV 0 0 0 0 ⟨#[]⟩, .int .i64 4]) ?_ rfl ⟨rfl, ?_⟩
        · first | (simp [results, Try.results21, go_sem, Q4c]; done) | simp [results, Try.results21, go_sem, Q4c, Q4l]
        · repeat (first | (with_reducible assumption) | (with_reducible exact Below.refl _ _) | with_reducible apply bl_drewN | with_reducible apply Below.drew | (with_reducible apply bl_alloc; focus (first | (simp; done) | (simp; omega) | omega)) | (with_reducible apply bl_set; focus (first | (simp; done) | (simp; omega) | omega)))
      have q2 : decide (cw ≤ c2.toNat) = false := decide_eq_false (by omega)
      by_cases e3 : (ch : Int) ≤ c3.toNat
      · have q3 : decide (ch ≤ c3.toNat) = true := decide_eq_true (by omega)
        rw [parse_none t (fun h => by have h5 := h.2.2.2.2.1; rw [B1.out, B3.out] at h5; omega)]
        unfold pv
        go_enter Try.func21, Try.ntmps21
        go_upto_region 3 with fail
        refine wp_absQ (fun W => Below w.heap.size w W ∧ w.heap.size < W.heap.size ∧ Blk W w.heap.size #[.int .i64 0, .int .i64 0, .int .i64 0, .int .i64 0, .string ⟨#[]⟩] 24) ⟨by (repeat (first | (with_reducible assumption) | (with_reducible exact Below.refl _ _) | with_reducible apply bl_drewN | with_reducible apply Below.drew | (with_reducible apply bl_alloc; focus (first | (simp; done) | (simp; omega) | omega)) | (with_reducible apply bl_set; focus (first | (simp; done) | (simp; omega) | omega)))), by simp, by (repeat (first | (with_reducible assumption) | (with_reducible apply Blk.new'; (first | (with_reducible rfl) | (simp; done))) | with_reducible apply Blk.alloc | with_reducible apply Blk.set | ((with_reducible apply Blk.set_ne); focus (first | (simp; done) | (simp; omega))) | with_reducible apply Blk.drewN | with_reducible apply Blk.drew))⟩ (fun W1 h5 => ?_)
        obtain ⟨HB1, HL1, Q1⟩ := h5
        have HB1s := HB1.size
        refine wp_region_typed 11 (fun k => match k with  | _ => []) (fun k => match k with | 9 => true | _ => false) (fun k => match k with | 6 => some ⟨(Unit), (()), (fun _ => .tuple #[VV cw ch 0 0 bl, .int .i64 0]), (fun _ _ => True), (fun _ _ _ h _ => h)⟩ | 10 => some ⟨(Nat), (0), (fun b => .pointer (some ⟨b, 0, none⟩)), (fun b w => W1.heap.size ≤ b ∧ Blk w b #[.int .i64 0, .int .i64 0, .int .i64 0, .int .i64 0, .string ⟨#[]⟩] 24), (fun b w w' h hb => ⟨h.1, h.2.below hb⟩)⟩ | _ => none) (by kernel_rfl) (by kernel_rfl) (by intro d0 v0 c0 a0 w0 h0; cases d0 <;> exact h0) ?_
        rw [show List.range 11 = [0, 1, 2, 3, 4, 5, 6, 7, 8, 9, 10] from rfl]
        first
          | (refine ty_skip rfl rfl ?_; (try simp only [Act.put, List.setIfInBounds_toArray, List.set_cons_zero, List.set_cons_succ]))
          | (refine ty_pure rfl rfl rfl rfl ?_; apply Exists.intro; refine ⟨fun wq hq hk => ?_, ?_⟩
             · have f0 := hq.blk Q1; simp only [pureAt]; go_simp; (try simp only [↓IntWalk.iteOmega]); (try go_bits); (try simp only [pureUpon]); (first | done | exact ⟨rfl, rfl⟩ | exact ⟨trivial, rfl⟩ | rfl)
             (try simp only [Act.put, List.setIfInBounds_toArray, List.set_cons_zero, List.set_cons_succ]))
        first
          | (refine ty_skip rfl rfl ?_; (try simp only [Act.put, List.setIfInBounds_toArray, List.set_cons_zero, List.set_cons_succ]))
          | (refine ty_pure rfl rfl rfl rfl ?_; apply Exists.intro; refine ⟨fun wq hq hk => ?_, ?_⟩
             · have f0 := hq.blk Q1; simp only [pureAt]; go_simp; (try simp only [↓IntWalk.iteOmega]); (try go_bits); (try simp only [pureUpon]); (first | done | exact ⟨rfl, rfl⟩ | exact ⟨trivial, rfl⟩ | rfl)
             (try simp only [Act.put, List.setIfInBounds_toArray, List.set_cons_zero, List.set_cons_succ]))
        first
          | (refine ty_skip rfl rfl ?_; (try simp only [Act.put, List.setIfInBounds_toArray, List.set_cons_zero, List.set_cons_succ]))
          | (refine ty_pure rfl rfl rfl rfl ?_; apply Exists.intro; refine ⟨fun wq hq hk => ?_, ?_⟩
             · have f0 := hq.blk Q1; simp only [pureAt]; go_simp; (try simp only [↓IntWalk.iteOmega]); (try go_bits); (try simp only [pureUpon]); (first | done | exact ⟨rfl, rfl⟩ | exact ⟨trivial, rfl⟩ | rfl)
             (try simp only [Act.put, List.setIfInBounds_toArray, List.set_cons_zero, List.set_cons_succ]))
        first
          | (refine ty_skip rfl rfl ?_; (try simp only [Act.put, List.setIfInBounds_toArray, List.set_cons_zero, List.set_cons_succ]))
          | (refine ty_pure rfl rfl rfl rfl ?_; apply Exists.intro; refine ⟨fun wq hq hk => ?_, ?_⟩
             · have f0 := hq.blk Q1; simp only [pureAt]; go_simp; (try simp only [↓IntWalk.iteOmega]); (try go_bits); (try simp only [pureUpon]); (first | done | exact ⟨rfl, rfl⟩ | exact ⟨trivial, rfl⟩ | rfl)
             (try simp only [Act.put, List.setIfInBounds_toArray, List.set_cons_zero, List.set_cons_succ]))
        first
          | (refine ty_skip rfl rfl ?_; (try simp only [Act.put, List.setIfInBounds_toArray, List.set_cons_zero, List.set_cons_succ]))
          | (refine ty_pure rfl rfl rfl rfl ?_; apply Exists.intro; refine ⟨fun wq hq hk => ?_, ?_⟩
             · have f0 := hq.blk Q1; simp only [pureAt]; go_simp; (try simp only [↓IntWalk.iteOmega]); (try go_bits); (try simp only [pureUpon]); (first | done | exact ⟨rfl, rfl⟩ | exact ⟨trivial, rfl⟩ | rfl)
             (try simp only [Act.put, List.setIfInBounds_toArray, List.set_cons_zero, List.set_cons_succ]))
        first
          | (refine ty_skip rfl rfl ?_; (try simp only [Act.put, List.setIfInBounds_toArray, List.set_cons_zero, List.set_cons_succ]))
          | (refine ty_pure rfl rfl rfl rfl ?_; apply Exists.intro; refine ⟨fun wq hq hk => ?_, ?_⟩
             · have f0 := hq.blk Q1; simp only [pureAt]; go_simp; (try simp only [↓IntWalk.iteOmega]); (try go_bits); (try simp only [pureUpon]); (first | done | exact ⟨rfl, rfl⟩ | exact ⟨trivial, rfl⟩ | rfl)
             (try simp only [Act.put, List.setIfInBounds_toArray, List.set_cons_zero, List.set_cons_succ]))
        refine ty_rel rfl rfl _ rfl rfl (fun wq hq hk => ?_) ?_
        · have f0 := hq.blk Q1; simp only [relAt]; go_simp; (try simp only [relUpon]); (go_at_call 12; refine (HN.out _).mono ?_; rintro e w9 ⟨rfl, hb9⟩; exact ⟨_, rfl, .mk hb9 () rfl trivial⟩)
        rintro ⟨⟩
        (try simp only [Act.put, List.setIfInBounds_toArray, List.set_cons_zero, List.set_cons_succ])
        first
          | (refine ty_skip rfl rfl ?_; (try simp only [Act.put, List.setIfInBounds_toArray, List.set_cons_zero, List.set_cons_succ]))
          | (refine ty_pure rfl rfl rfl rfl ?_; apply Exists.intro; refine ⟨fun wq hq hk => ?_, ?_⟩
             · have f0 := hq.blk Q1; simp only [pureAt]; go_simp; (try simp only [↓IntWalk.iteOmega]); (try go_bits); (try simp only [pureUpon]); (first | done | exact ⟨rfl, rfl⟩ | exact ⟨trivial, rfl⟩ | rfl)
             (try simp only [Act.put, List.setIfInBounds_toArray, List.set_cons_zero, List.set_cons_succ]))
        first
          | (refine ty_skip rfl rfl ?_; (try simp only [Act.put, List.setIfInBounds_toArray, List.set_cons_zero, List.set_cons_succ]))
          | (refine ty_pure rfl rfl rfl rfl ?_; apply Exists.intro; refine ⟨fun wq hq hk => ?_, ?_⟩
             · have f0 := hq.blk Q1; simp only [pureAt]; go_simp; (try simp only [↓IntWalk.iteOmega]); (try go_bits); (try simp only [pureUpon]); (first | done | exact ⟨rfl, rfl⟩ | exact ⟨trivial, rfl⟩ | rfl)
             (try simp only [Act.put, List.setIfInBounds_toArray, List.set_cons_zero, List.set_cons_succ]))
        first
          | (refine ty_skip rfl rfl ?_; (try simp only [Act.put, List.setIfInBounds_toArray, List.set_cons_zero, List.set_cons_succ]))
          | (refine ty_late rfl rfl rfl ?_; apply Exists.intro; refine ⟨fun wq => ?_, ?_⟩
             · simp only [pureAt]; go_simp; (try simp only [↓IntWalk.iteOmega]); (try go_bits); (try simp only [pureUpon]); (first | done | exact ⟨rfl, rfl⟩ | exact ⟨trivial, rfl⟩ | rfl)
             (try simp only [Act.put, List.setIfInBounds_toArray, List.set_cons_zero, List.set_cons_succ]))
        refine ty_rel rfl rfl _ rfl rfl (fun wq hq hk => ?_) ?_
        · have f0 := hq.blk Q1; simp only [relAt]; go_simp; (try simp only [relUpon]); exact .mk ((Below.refl _ _).alloc (Nat.le_refl _) _) wq.heap.size rfl ⟨hq.size, Blk.new wq _ _⟩
        rintro (b10 : Nat)
        (try simp only [Act.put, List.setIfInBounds_toArray, List.set_cons_zero, List.set_cons_succ])
        refine ty_nil ?_
        simp only [List.drop_succ_cons, List.drop_zero]
        intro W8 hw8 hΓ
        have A10 : W1.heap.size ≤ b10 ∧ Blk W8 b10 #[.int .i64 0, .int .i64 0, .int .i64 0, .int .i64 0, .string ⟨#[]⟩] 24 := hΓ _ (.head _)
        have HB8 := Below.thn HB1 hw8.out HB1s
        have Q18 := Q1.below hw8.out
        have n1 : w.heap.size ≠ b10 := by have := A10.1; omega
        have g10 : w.heap.size ≤ b10 := by omega
        clear hΓ hw8 HB1 Q1
        refine wpList_put rfl 24 _ _ rfl b10 _ _ 24 rfl rfl A10.2 (by kernel_rfl) rfl (by first | rfl | decide | simp [Value.oneCell']) (fun W9 hp9 B9 => ?_)
        (try simp only [Act.put])
        have HB9 := hp9.below g10 HB8
        have Q19 := hp9.blk n1 Q18
        have HB9s := HB9.size
        clear A10 HB8 Q18 hp9 HB1s HL1
        go_wp2_with fail
        refine wp_region_gr (by kernel_rfl) (by kernel_rfl) ?_
        repeat (first
          | go_big_quiet_skip
          | ((refine BigFrame.wpQuiet_want rfl (fun K hK => quiet_mk ?_)); apply Exists.intro; refine ⟨fun wq hq => ?_, hK _ ?_⟩
             · have f0 := hq.blk B9; go_simp; (try simp only [↓IntWalk.iteOmega]); (try go_bits)
               first | done | rfl | exact ⟨rfl, rfl⟩ | exact ⟨trivial, rfl⟩
             clear hK K; (try simp only [Act.put, List.setIfInBounds_toArray, List.set_cons_zero, List.set_cons_succ])))
        refine wpQuiet_nil ?_
        intro W4 hw4
        have HB4 := Below.thn HB9 hw4.out HB9s
        have B4 := B9.below hw4.out
        have Q4 := Q19.below hw4.out
        have HB4s := HB4.size
        have Q4c := Q4.cell; have Q4f := Q4.frozen; have Q4l := Q4.lt
        clear HB9 B9 Q19 HB9s hw4
        go_wp2_with fail
        refine bodyPost_ret (v := .tuple #[VV 0 0 0 0 ⟨#[]⟩, .int .i64 4]) ?_ rfl ⟨rfl, ?_⟩
        · first | (simp [results, Try.results21, go_sem, Q4c]; done) | simp [results, Try.results21, go_sem, Q4c, Q4l]
        · repeat (first | (with_reducible assumption) | (with_reducible exact Below.refl _ _) | with_reducible apply bl_drewN | with_reducible apply Below.drew | (with_reducible apply bl_alloc; focus (first | (simp; done) | (simp; omega) | omega)) | (with_reducible apply bl_set; focus (first | (simp; done) | (simp; omega) | omega)))
      have q3 : decide (ch ≤ c3.toNat) = false := decide_eq_false (by omega)
      go_enter Try.func21, Try.ntmps21
      go_upto_region 3 with fail
      refine wp_absQ (fun W => Below w.heap.size w W ∧ w.heap.size < W.heap.size ∧ Blk W w.heap.size #[.int .i64 0, .int .i64 0, .int .i64 0, .int .i64 0, .string ⟨#[]⟩] 24) ⟨by (repeat (first | (with_reducible assumption) | (with_reducible exact Below.refl _ _) | with_reducible apply bl_drewN | with_reducible apply Below.drew | (with_reducible apply bl_alloc; focus (first | (simp; done) | (simp; omega) | omega)) | (with_reducible apply bl_set; focus (first | (simp; done) | (simp; omega) | omega)))), by simp, by (repeat (first | (with_reducible assumption) | (with_reducible apply Blk.new'; (first | (with_reducible rfl) | (simp; done))) | with_reducible apply Blk.alloc | with_reducible apply Blk.set | ((with_reducible apply Blk.set_ne); focus (first | (simp; done) | (simp; omega))) | with_reducible apply Blk.drewN | with_reducible apply Blk.drew))⟩ (fun W1 h5 => ?_)
      obtain ⟨HB1, HL1, Q1⟩ := h5
      have HB1s := HB1.size
      refine wp_region_typed 11 (fun k => match k with  | _ => []) (fun k => match k with | 9 => true | _ => false) (fun k => match k with | 6 => some ⟨(Unit), (()), (fun _ => .tuple #[VV cw ch 0 0 bl, .int .i64 0]), (fun _ _ => True), (fun _ _ _ h _ => h)⟩ | 10 => some ⟨(Nat), (0), (fun b => .pointer (some ⟨b, 0, none⟩)), (fun b w => W1.heap.size ≤ b ∧ Blk w b #[.int .i64 0, .int .i64 0, .int .i64 0, .int .i64 0, .string ⟨#[]⟩] 24), (fun b w w' h hb => ⟨h.1, h.2.below hb⟩)⟩ | _ => none) (by kernel_rfl) (by kernel_rfl) (by intro d0 v0 c0 a0 w0 h0; cases d0 <;> exact h0) ?_
      rw [show List.range 11 = [0, 1, 2, 3, 4, 5, 6, 7, 8, 9, 10] from rfl]
      first
        | (refine ty_skip rfl rfl ?_; (try simp only [Act.put, List.setIfInBounds_toArray, List.set_cons_zero, List.set_cons_succ]))
        | (refine ty_pure rfl rfl rfl rfl ?_; apply Exists.intro; refine ⟨fun wq hq hk => ?_, ?_⟩
           · have f0 := hq.blk Q1; simp only [pureAt]; go_simp; (try simp only [↓IntWalk.iteOmega]); (try go_bits); (try simp only [pureUpon]); (first | done | exact ⟨rfl, rfl⟩ | exact ⟨trivial, rfl⟩ | rfl)
           (try simp only [Act.put, List.setIfInBounds_toArray, List.set_cons_zero, List.set_cons_succ]))
      first
        | (refine ty_skip rfl rfl ?_; (try simp only [Act.put, List.setIfInBounds_toArray, List.set_cons_zero, List.set_cons_succ]))
        | (refine ty_pure rfl rfl rfl rfl ?_; apply Exists.intro; refine ⟨fun wq hq hk => ?_, ?_⟩
           · have f0 := hq.blk Q1; simp only [pureAt]; go_simp; (try simp only [↓IntWalk.iteOmega]); (try go_bits); (try simp only [pureUpon]); (first | done | exact ⟨rfl, rfl⟩ | exact ⟨trivial, rfl⟩ | rfl)
           (try simp only [Act.put, List.setIfInBounds_toArray, List.set_cons_zero, List.set_cons_succ]))
      first
        | (refine ty_skip rfl rfl ?_; (try simp only [Act.put, List.setIfInBounds_toArray, List.set_cons_zero, List.set_cons_succ]))
        | (refine ty_pure rfl rfl rfl rfl ?_; apply Exists.intro; refine ⟨fun wq hq hk => ?_, ?_⟩
           · have f0 := hq.blk Q1; simp only [pureAt]; go_simp; (try simp only [↓IntWalk.iteOmega]); (try go_bits); (try simp only [pureUpon]); (first | done | exact ⟨rfl, rfl⟩ | exact ⟨trivial, rfl⟩ | rfl)
           (try simp only [Act.put, List.setIfInBounds_toArray, List.set_cons_zero, List.set_cons_succ]))
      first
        | (refine ty_skip rfl rfl ?_; (try simp only [Act.put, List.setIfInBounds_toArray, List.set_cons_zero, List.set_cons_succ]))
        | (refine ty_pure rfl rfl rfl rfl ?_; apply Exists.intro; refine ⟨fun wq hq hk => ?_, ?_⟩
           · have f0 := hq.blk Q1; simp only [pureAt]; go_simp; (try simp only [↓IntWalk.iteOmega]); (try go_bits); (try simp only [pureUpon]); (first | done | exact ⟨rfl, rfl⟩ | exact ⟨trivial, rfl⟩ | rfl)
           (try simp only [Act.put, List.setIfInBounds_toArray, List.set_cons_zero, List.set_cons_succ]))
      first
        | (refine ty_skip rfl rfl ?_; (try simp only [Act.put, List.setIfInBounds_toArray, List.set_cons_zero, List.set_cons_succ]))
        | (refine ty_pure rfl rfl rfl rfl ?_; apply Exists.intro; refine ⟨fun wq hq hk => ?_, ?_⟩
           · have f0 := hq.blk Q1; simp only [pureAt]; go_simp; (try simp only [↓IntWalk.iteOmega]); (try go_bits); (try simp only [pureUpon]); (first | done | exact ⟨rfl, rfl⟩ | exact ⟨trivial, rfl⟩ | rfl)
           (try simp only [Act.put, List.setIfInBounds_toArray, List.set_cons_zero, List.set_cons_succ]))
      first
        | (refine ty_skip rfl rfl ?_; (try simp only [Act.put, List.setIfInBounds_toArray, List.set_cons_zero, List.set_cons_succ]))
        | (refine ty_pure rfl rfl rfl rfl ?_; apply Exists.intro; refine ⟨fun wq hq hk => ?_, ?_⟩
           · have f0 := hq.blk Q1; simp only [pureAt]; go_simp; (try simp only [↓IntWalk.iteOmega]); (try go_bits); (try simp only [pureUpon]); (first | done | exact ⟨rfl, rfl⟩ | exact ⟨trivial, rfl⟩ | rfl)
           (try simp only [Act.put, List.setIfInBounds_toArray, List.set_cons_zero, List.set_cons_succ]))
      refine ty_rel rfl rfl _ rfl rfl (fun wq hq hk => ?_) ?_
      · have f0 := hq.blk Q1; simp only [relAt]; go_simp; (try simp only [relUpon]); (go_at_call 12; refine (HN.out _).mono ?_; rintro e w9 ⟨rfl, hb9⟩; exact ⟨_, rfl, .mk hb9 () rfl trivial⟩)
      rintro ⟨⟩
      (try simp only [Act.put, List.setIfInBounds_toArray, List.set_cons_zero, List.set_cons_succ])
      first
        | (refine ty_skip rfl rfl ?_; (try simp only [Act.put, List.setIfInBounds_toArray, List.set_cons_zero, List.set_cons_succ]))
        | (refine ty_pure rfl rfl rfl rfl ?_; apply Exists.intro; refine ⟨fun wq hq hk => ?_, ?_⟩
           · have f0 := hq.blk Q1; simp only [pureAt]; go_simp; (try simp only [↓IntWalk.iteOmega]); (try go_bits); (try simp only [pureUpon]); (first | done | exact ⟨rfl, rfl⟩ | exact ⟨trivial, rfl⟩ | rfl)
           (try simp only [Act.put, List.setIfInBounds_toArray, List.set_cons_zero, List.set_cons_succ]))
      first
        | (refine ty_skip rfl rfl ?_; (try simp only [Act.put, List.setIfInBounds_toArray, List.set_cons_zero, List.set_cons_succ]))
        | (refine ty_pure rfl rfl rfl rfl ?_; apply Exists.intro; refine ⟨fun wq hq hk => ?_, ?_⟩
           · have f0 := hq.blk Q1; simp only [pureAt]; go_simp; (try simp only [↓IntWalk.iteOmega]); (try go_bits); (try simp only [pureUpon]); (first | done | exact ⟨rfl, rfl⟩ | exact ⟨trivial, rfl⟩ | rfl)
           (try simp only [Act.put, List.setIfInBounds_toArray, List.set_cons_zero, List.set_cons_succ]))
      first
        | (refine ty_skip rfl rfl ?_; (try simp only [Act.put, List.setIfInBounds_toArray, List.set_cons_zero, List.set_cons_succ]))
        | (refine ty_late rfl rfl rfl ?_; apply Exists.intro; refine ⟨fun wq => ?_, ?_⟩
           · simp only [pureAt]; go_simp; (try simp only [↓IntWalk.iteOmega]); (try go_bits); (try simp only [pureUpon]); (first | done | exact ⟨rfl, rfl⟩ | exact ⟨trivial, rfl⟩ | rfl)
           (try simp only [Act.put, List.setIfInBounds_toArray, List.set_cons_zero, List.set_cons_succ]))
      refine ty_rel rfl rfl _ rfl rfl (fun wq hq hk => ?_) ?_
      · have f0 := hq.blk Q1; simp only [relAt]; go_simp; (try simp only [relUpon]); exact .mk ((Below.refl _ _).alloc (Nat.le_refl _) _) wq.heap.size rfl ⟨hq.size, Blk.new wq _ _⟩
      rintro (b10 : Nat)
      (try simp only [Act.put, List.setIfInBounds_toArray, List.set_cons_zero, List.set_cons_succ])
      refine ty_nil ?_
      simp only [List.drop_succ_cons, List.drop_zero]
      intro W8 hw8 hΓ
      have A10 : W1.heap.size ≤ b10 ∧ Blk W8 b10 #[.int .i64 0, .int .i64 0, .int .i64 0, .int .i64 0, .string ⟨#[]⟩] 24 := hΓ _ (.head _)
      have HB8 := Below.thn HB1 hw8.out HB1s
      have Q18 := Q1.below hw8.out
      have n1 : w.heap.size ≠ b10 := by have := A10.1; omega
      have g10 : w.heap.size ≤ b10 := by omega
      clear hΓ hw8 HB1 Q1
      refine wpList_put rfl 24 _ _ rfl b10 _ _ 24 rfl rfl A10.2 (by kernel_rfl) rfl (by first | rfl | decide | simp [Value.oneCell']) (fun W9 hp9 B9 => ?_)
      (try simp only [Act.put])
      have HB9 := hp9.below g10 HB8
      have Q19 := hp9.blk n1 Q18
      have HB9s := HB9.size
      clear A10 HB8 Q18 hp9 HB1s HL1
      go_wp2_with fail
      refine wp_region_gr (by kernel_rfl) (by kernel_rfl) ?_
      repeat (first
        | go_big_quiet_skip
        | ((refine BigFrame.wpQuiet_want rfl (fun K hK => quiet_mk ?_)); apply Exists.intro; refine ⟨fun wq hq => ?_, hK _ ?_⟩
           · have f0 := hq.blk B9; go_simp; (try simp only [↓IntWalk.iteOmega]); (try go_bits)
             first | done | rfl | exact ⟨rfl, rfl⟩ | exact ⟨trivial, rfl⟩
           clear hK K; (try simp only [Act.put, List.setIfInBounds_toArray, List.set_cons_zero, List.set_cons_succ])))
      refine wpQuiet_nil ?_
      intro W4 hw4
      have HB4 := Below.thn HB9 hw4.out HB9s
      have B4 := B9.below hw4.out
      have Q4 := Q19.below hw4.out
      have HB4s := HB4.size
      have Q4c := Q4.cell; have Q4f := Q4.frozen; have Q4l := Q4.lt
      clear HB9 B9 Q19 HB9s hw4
      go_wp2_with fail
      obtain ⟨r, hr⟩ : ∃ r, t.extract 4 t.size = r := ⟨_, rfl⟩
      have B4l := B4.lt
      refine wp_region_typed 8 (fun k => match k with  | _ => []) (fun k => match k with | 3 => true | 4 => true | 5 => true | 6 => true | 7 => true | _ => false) (fun k => match k with  | _ => none) (by kernel_rfl) (by kernel_rfl) (by intro d0 v0 c0 a0 w0 h0; cases d0 <;> exact h0) ?_
      rw [show List.range 8 = [0, 1, 2, 3, 4, 5, 6, 7] from rfl]
      first
        | (refine ty_skip rfl rfl ?_; (try simp only [Act.put, List.setIfInBounds_toArray, List.set_cons_zero, List.set_cons_succ]))
        | (refine ty_pure rfl rfl rfl rfl ?_; apply Exists.intro; refine ⟨fun wq hq hk => ?_, ?_⟩
           · have f0 := hq.blk B4; simp only [pureAt]; go_simp; (try simp only [↓IntWalk.iteOmega]); (try go_bits); (try simp only [pureUpon]); (first | done | exact ⟨rfl, rfl⟩ | exact ⟨trivial, rfl⟩ | rfl)
           (try simp only [Act.put, List.setIfInBounds_toArray, List.set_cons_zero, List.set_cons_succ]))
      first
        | (refine ty_skip rfl rfl ?_; (try simp only [Act.put, List.setIfInBounds_toArray, List.set_cons_zero, List.set_cons_succ]))
        | (refine ty_pure rfl rfl rfl rfl ?_; apply Exists.intro; refine ⟨fun wq hq hk => ?_, ?_⟩
           · have f0 := hq.blk B4; simp only [pureAt]; go_simp; (try simp only [↓IntWalk.iteOmega]); (try go_bits); (try simp only [pureUpon]); (first | done | exact ⟨rfl, rfl⟩ | exact ⟨trivial, rfl⟩ | rfl)
           (try simp only [Act.put, List.setIfInBounds_toArray, List.set_cons_zero, List.set_cons_succ]))
      first
        | (refine ty_skip rfl rfl ?_; (try simp only [Act.put, List.setIfInBounds_toArray, List.set_cons_zero, List.set_cons_succ]))
        | (refine ty_pure rfl rfl rfl rfl ?_; apply Exists.intro; refine ⟨fun wq hq hk => ?_, ?_⟩
           · have f0 := hq.blk B4; simp only [pureAt]; go_simp; (try simp only [↓IntWalk.iteOmega]); (try go_bits); (try simp only [pureUpon]); (first | done | exact ⟨rfl, rfl⟩ | exact ⟨trivial, rfl⟩ | rfl)
           (try simp only [Act.put, List.setIfInBounds_toArray, List.set_cons_zero, List.set_cons_succ]))
      first
        | (refine ty_skip rfl rfl ?_; (try simp only [Act.put, List.setIfInBounds_toArray, List.set_cons_zero, List.set_cons_succ]))
        | (refine ty_late rfl rfl rfl ?_; apply Exists.intro; refine ⟨fun wq => ?_, ?_⟩
           · simp only [pureAt]; go_simp; (try simp only [↓IntWalk.iteOmega]); (try go_bits); (try simp only [pureUpon]); (first | done | exact ⟨rfl, rfl⟩ | exact ⟨trivial, rfl⟩ | rfl)
           (try simp only [Act.put, List.setIfInBounds_toArray, List.set_cons_zero, List.set_cons_succ]))
      first
        | (refine ty_skip rfl rfl ?_; (try simp only [Act.put, List.setIfInBounds_toArray, List.set_cons_zero, List.set_cons_succ]))
        | (refine ty_late rfl rfl rfl ?_; apply Exists.intro; refine ⟨fun wq => ?_, ?_⟩
           · simp only [pureAt]; go_simp; (try simp only [↓IntWalk.iteOmega]); (try go_bits); (try simp only [pureUpon]); (first | done | exact ⟨rfl, rfl⟩ | exact ⟨trivial, rfl⟩ | rfl)
           (try simp only [Act.put, List.setIfInBounds_toArray, List.set_cons_zero, List.set_cons_succ]))
      first
        | (refine ty_skip rfl rfl ?_; (try simp only [Act.put, List.setIfInBounds_toArray, List.set_cons_zero, List.set_cons_succ]))
        | (refine ty_late rfl rfl rfl ?_; apply Exists.intro; refine ⟨fun wq => ?_, ?_⟩
           · simp only [pureAt]; go_simp; (try simp only [↓IntWalk.iteOmega]); (try go_bits); (try simp only [pureUpon]); (first | done | exact ⟨rfl, rfl⟩ | exact ⟨trivial, rfl⟩ | rfl)
           (try simp only [Act.put, List.setIfInBounds_toArray, List.set_cons_zero, List.set_cons_succ]))
      first
        | (refine ty_skip rfl rfl ?_; (try simp only [Act.put, List.setIfInBounds_toArray, List.set_cons_zero, List.set_cons_succ]))
        | (refine ty_late rfl rfl rfl ?_; apply Exists.intro; refine ⟨fun wq => ?_, ?_⟩
           · simp only [pureAt]; go_simp; (try simp only [↓IntWalk.iteOmega]); (try go_bits); (try simp only [pureUpon]); (first | done | exact ⟨rfl, rfl⟩ | exact ⟨trivial, rfl⟩ | rfl)
           (try simp only [Act.put, List.setIfInBounds_toArray, List.set_cons_zero, List.set_cons_succ]))
      first
        | (refine ty_skip rfl rfl ?_; (try simp only [Act.put, List.setIfInBounds_toArray, List.set_cons_zero, List.set_cons_succ]))
        | (refine ty_late rfl rfl rfl ?_; apply Exists.intro; refine ⟨fun wq => ?_, ?_⟩
           · simp only [pureAt]; go_simp; (try simp only [↓IntWalk.iteOmega]); (try go_bits); (try simp only [pureUpon]); (first | done | exact ⟨rfl, rfl⟩ | exact ⟨trivial, rfl⟩ | rfl)
           (try simp only [Act.put, List.setIfInBounds_toArray, List.set_cons_zero, List.set_cons_succ]))
      refine ty_nil ?_
      simp only [List.drop_succ_cons, List.drop_zero]
      intro W5 hw5 hΓ
      have HB5 := Below.thn HB4 hw5.out HB4s
      have B5 := B4.below hw5.out
      have Q5 := Q4.below hw5.out
      have HB5s := HB5.size
      clear hΓ hw5 HB4 B4 Q4 HB4s Q4c Q4f Q4l B4l
      have B5c := B5.cell; have B5f := B5.frozen; have B5l := B5.lt
      go_upto_region 7 with fail
      refine wp_absQ (fun W => Below w.heap.size w W ∧ Blk W w.heap.size #[.int .i64 0, .int .i64 0, .int .i64 0, .int .i64 0, .string ⟨#[]⟩] 24 ∧ Blk W b10 #[.int .i64 cw, .int .i64 ch, .int .i64 c2.toNat, .int .i64 c3.toNat, .string r] 24) ⟨by (repeat (first | (with_reducible assumption) | (with_reducible exact Below.refl _ _) | with_reducible apply bl_drewN | with_reducible apply Below.drew | (with_reducible apply bl_alloc; focus (first | (simp; done) | (simp; omega) | omega)) | (with_reducible apply bl_set; focus (first | (simp; done) | (simp; omega) | omega)))), by (repeat (first | (with_reducible assumption) | (with_reducible apply Blk.new'; (first | (with_reducible rfl) | (simp; done))) | with_reducible apply Blk.alloc | with_reducible apply Blk.set | ((with_reducible apply Blk.set_ne); focus (first | (simp; done) | (simp; omega))) | with_reducible apply Blk.drewN | with_reducible apply Blk.drew)), (((B5.set).set).set).conv rfl⟩ (fun W6 h6 => ?_)
      obtain ⟨HB6, Q6, B6⟩ := h6
      have HB6s := HB6.size
      have B6c := B6.cell
      have B6l := B6.lt
      clear HB5 B5 Q5 HB5s B5c B5f B5l
      have hrs : r.size = n := by rw [← hr, ByteArray.size_extract]; omega
      have hrl : r.data.toList = t.data.toList.drop 4 := by
        rw [← hr, ba_extract, List.take_of_length_le]
        rw [List.length_drop]; exact Nat.le_refl _
      have hrt : txt (t.data.toList.drop 4) = r := by
        apply ba_ext; rw [hrl]; simp [txt]
      have HE := Lib.hid (And.intro e1 (And.intro e2 e3))
      have HR := Lib.hid hrl
      have HRT := Lib.hid hrt
      clear hrl hrt hr g4 e1 e2 e3 q1 q2 q3 HN i0 i1 i2 i3 k0 k1 k2 k3 l0 l1 l2 l3 hbls
      clear hcw hch
      go_wp2_with fail
      go_loopg [63] n (fun g t63 wr => ∃ j : Nat, t63 = .int .i64 j ∧ j + g = n ∧ (∀ i, i < j → 32 ≤ (r.data.toList.getD i 0).toNat ∧ (r.data.toList.getD i 0).toNat ≤ 126) ∧ Below w.heap.size w wr ∧ Blk wr w.heap.size #[.int .i64 0, .int .i64 0, .int .i64 0, .int .i64 0, .string ⟨#[]⟩] 24 ∧ Blk wr b10 #[.int .i64 cw, .int .i64 ch, .int .i64 c2.toNat, .int .i64 c3.toNat, .string r] 24)
      case atStart => exact ⟨0, rfl, by omega, fun i hi => absurd hi (Nat.not_lt_zero i), HB6, Q6, B6⟩
      case round =>
        clear HB6 Q6 B6 HB6s B6c B6l
        obtain ⟨j, rfl, hj, hpl, HB, Q, B⟩ := hrel
        have HBs := HB.size
        have Bc := B.cell; have Bl := B.lt; have Qc := Q.cell; have Qf := Q.frozen; have Ql := Q.lt
        have HJ := Lib.hid hj
        have HPL := Lib.hid hpl
        cases gk with
        | zero =>
          have hj' : ¬ (j : Int) < n := by omega
          obtain rfl : j = n := by omega
          have hok : ParseOk t := ⟨by have := HE.out.1; omega, by rw [B0.out, B1.out]; exact ⟨d1, d2, d3, d4⟩, by rw [B0.out, B1.out, HNN.out]; have := HE.out.1; omega, by rw [B0.out, B2.out]; have := HE.out.2.1; omega, by rw [B1.out, B3.out]; have := HE.out.2.2; omega, fun i hi => by rw [← HR.out] at hi ⊢; exact hpl i (by have h5 : r.data.toList.length = r.size := rfl; omega)⟩
          have hpv : Value.tuple #[VV cw ch c2.toNat c3.toNat r, .int .i64 0] = pv (parseS t) := by
            rw [parse_some t hok]
            unfold pv
            simp only [HRT.out, B0.out, B1.out, B2.out, B3.out]
          have HPV := Lib.hid hpv
          clear hj hpl hok hpv
          go_wp2_with fail
          refine bodyPost_ret (v := .tuple #[VV cw ch c2.toNat c3.toNat r, .int .i64 0]) ?_ rfl ⟨congrArg _ HPV.out, ?_⟩
          · first | (simp [results, Try.results21, go_sem, Qc]; done) | simp [results, Try.results21, go_sem, Qc, Ql]
          · repeat (first | (with_reducible assumption) | (with_reducible exact Below.refl _ _) | with_reducible apply bl_drewN | with_reducible apply Below.drew | (with_reducible apply bl_alloc; focus (first | (simp; done) | (simp; omega) | omega)) | (with_reducible apply bl_set; focus (first | (simp; done) | (simp; omega) | omega)))
        | succ g =>
          have hj' : (j : Int) < n := by omega
          have hjl : j < r.size := by omega
          have hjr : (j : Int) < r.size := by omega
          obtain ⟨c, hc⟩ : ∃ c, r[j] = c := ⟨_, rfl⟩
          have hcd : r.data.toList.getD j 0 = c := by
            have h' : j < r.data.toList.length := hjl
            rw [List.getD_eq_getElem?_getD, List.getElem?_eq_getElem h', ← hc]; rfl
          have HCD := Lib.hid hcd
          clear hj hpl hcd
          go_wp2_with fail
          clear Bc Bl Qc Qf Ql
          refine (shown_any c _).mono ?_
          rintro e w7 ⟨rfl, hb7⟩
          have HB7 := Below.thn HB hb7 HBs
          have B7 := B.below hb7
          have Q7 := Q.below hb7
          have HB7s := HB7.size
          clear hb7 HB B Q HBs
          have Qc := Q7.cell; have Qf := Q7.frozen; have Ql := Q7.lt
          by_cases hpc : 32 ≤ c.toNat ∧ c.toNat ≤ 126
          · rw [decide_eq_true hpc]
            have HPC := Lib.hid hpc
            clear hpc
            go_wp2_with fail
            go_roundg g
            case rel => exact ⟨j + 1, by simp, by have := HJ.out; omega, fun i hi => (Nat.lt_succ_iff_lt_or_eq.1 hi).elim (HPL.out i) (fun h5 => by rw [h5, HCD.out]; exact HPC.out), HB7, Q7, B7⟩
            case measure => omega
          · rw [decide_eq_false hpc]
            have hpv : Value.tuple #[VV 0 0 0 0 ⟨#[]⟩, .int .i64 4] = pv (parseS t) := by
              rw [parse_none t (fun h => hpc (by have h5 := h.2.2.2.2.2 j (by rw [← HR.out]; exact hjl); rw [← HR.out, HCD.out] at h5; exact h5))]
              rfl
            have HPV := Lib.hid hpv
            clear hpc hpv
            go_wp2_with fail
            refine bodyPost_ret (v := .tuple #[VV 0 0 0 0 ⟨#[]⟩, .int .i64 4]) ?_ rfl ⟨congrArg _ HPV.out, ?_⟩
            · first | (simp [results, Try.results21, go_sem, Qc]; done) | simp [results, Try.results21, go_sem, Qc, Ql]
            · repeat (first | (with_reducible assumption) | (with_reducible exact Below.refl _ _) | with_reducible apply bl_drewN | with_reducible apply Below.drew | (with_reducible apply bl_alloc; focus (first | (simp; done) | (simp; omega) | omega)) | (with_reducible apply bl_set; focus (first | (simp; done) | (simp; omega) | omega)))
    · have q1 : ((t.size : Int) != 4 + n) = true := by simpa using e1
      rw [parse_none t (fun h => e1 (by have h5 := h.2.2.1; rw [B0.out, B1.out, HNN.out] at h5; omega))]
      unfold pv
      go_enter Try.func21, Try.ntmps21
      go_upto_region 3 with fail
      refine wp_absQ (fun W => Below w.heap.size w W ∧ w.heap.size < W.heap.size ∧ Blk W w.heap.size #[.int .i64 0, .int .i64 0, .int .i64 0, .int .i64 0, .string ⟨#[]⟩] 24) ⟨by (repeat (first | (with_reducible assumption) | (with_reducible exact Below.refl _ _) | with_reducible apply bl_drewN | with_reducible apply Below.drew | (with_reducible apply bl_alloc; focus (first | (simp; done) | (simp; omega) | omega)) | (with_reducible apply bl_set; focus (first | (simp; done) | (simp; omega) | omega)))), by simp, by (repeat (first | (with_reducible assumption) | (with_reducible apply Blk.new'; (first | (with_reducible rfl) | (simp; done))) | with_reducible apply Blk.alloc | with_reducible apply Blk.set | ((with_reducible apply Blk.set_ne); focus (first | (simp; done) | (simp; omega))) | with_reducible apply Blk.drewN | with_reducible apply Blk.drew))⟩ (fun W1 h5 => ?_)
      obtain ⟨HB1, HL1, Q1⟩ := h5
      have HB1s := HB1.size
      refine wp_region_typed 11 (fun k => match k with  | _ => []) (fun k => match k with | 9 => true | _ => false) (fun k => match k with | 6 => some ⟨(Unit), (()), (fun _ => .tuple #[VV cw ch 0 0 bl, .int .i64 0]), (fun _ _ => True), (fun _ _ _ h _ => h)⟩ | 10 => some ⟨(Nat), (0), (fun b => .pointer (some ⟨b, 0, none⟩)), (fun b w => W1.heap.size ≤ b ∧ Blk w b #[.int .i64 0, .int .i64 0, .int .i64 0, .int .i64 0, .string ⟨#[]⟩] 24), (fun b w w' h hb => ⟨h.1, h.2.below hb⟩)⟩ | _ => none) (by kernel_rfl) (by kernel_rfl) (by intro d0 v0 c0 a0 w0 h0; cases d0 <;> exact h0) ?_
      rw [show List.range 11 = [0, 1, 2, 3, 4, 5, 6, 7, 8, 9, 10] from rfl]
      first
        | (refine ty_skip rfl rfl ?_; (try simp only [Act.put, List.setIfInBounds_toArray, List.set_cons_zero, List.set_cons_succ]))
        | (refine ty_pure rfl rfl rfl rfl ?_; apply Exists.intro; refine ⟨fun wq hq hk => ?_, ?_⟩
           · have f0 := hq.blk Q1; simp only [pureAt]; go_simp; (try simp only [↓IntWalk.iteOmega]); (try go_bits); (try simp only [pureUpon]); (first | done | exact ⟨rfl, rfl⟩ | exact ⟨trivial, rfl⟩ | rfl)
           (try simp only [Act.put, List.setIfInBounds_toArray, List.set_cons_zero, List.set_cons_succ]))
      first
        | (refine ty_skip rfl rfl ?_; (try simp only [Act.put, List.setIfInBounds_toArray, List.set_cons_zero, List.set_cons_succ]))
        | (refine ty_pure rfl rfl rfl rfl ?_; apply Exists.intro; refine ⟨fun wq hq hk => ?_, ?_⟩
           · have f0 := hq.blk Q1; simp only [pureAt]; go_simp; (try simp only [↓IntWalk.iteOmega]); (try go_bits); (try simp only [pureUpon]); (first | done | exact ⟨rfl, rfl⟩ | exact ⟨trivial, rfl⟩ | rfl)
           (try simp only [Act.put, List.setIfInBounds_toArray, List.set_cons_zero, List.set_cons_succ]))
      first
        | (refine ty_skip rfl rfl ?_; (try simp only [Act.put, List.setIfInBounds_toArray, List.set_cons_zero, List.set_cons_succ]))
        | (refine ty_pure rfl rfl rfl rfl ?_; apply Exists.intro; refine ⟨fun wq hq hk => ?_, ?_⟩
           · have f0 := hq.blk Q1; simp only [pureAt]; go_simp; (try simp only [↓IntWalk.iteOmega]); (try go_bits); (try simp only [pureUpon]); (first | done | exact ⟨rfl, rfl⟩ | exact ⟨trivial, rfl⟩ | rfl)
           (try simp only [Act.put, List.setIfInBounds_toArray, List.set_cons_zero, List.set_cons_succ]))
      first
        | (refine ty_skip rfl rfl ?_; (try simp only [Act.put, List.setIfInBounds_toArray, List.set_cons_zero, List.set_cons_succ]))
        | (refine ty_pure rfl rfl rfl rfl ?_; apply Exists.intro; refine ⟨fun wq hq hk => ?_, ?_⟩
           · have f0 := hq.blk Q1; simp only [pureAt]; go_simp; (try simp only [↓IntWalk.iteOmega]); (try go_bits); (try simp only [pureUpon]); (first | done | exact ⟨rfl, rfl⟩ | exact ⟨trivial, rfl⟩ | rfl)
           (try simp only [Act.put, List.setIfInBounds_toArray, List.set_cons_zero, List.set_cons_succ]))
      first
        | (refine ty_skip rfl rfl ?_; (try simp only [Act.put, List.setIfInBounds_toArray, List.set_cons_zero, List.set_cons_succ]))
        | (refine ty_pure rfl rfl rfl rfl ?_; apply Exists.intro; refine ⟨fun wq hq hk => ?_, ?_⟩
           · have f0 := hq.blk Q1; simp only [pureAt]; go_simp; (try simp only [↓IntWalk.iteOmega]); (try go_bits); (try simp only [pureUpon]); (first | done | exact ⟨rfl, rfl⟩ | exact ⟨trivial, rfl⟩ | rfl)
           (try simp only [Act.put, List.setIfInBounds_toArray, List.set_cons_zero, List.set_cons_succ]))
      first
        | (refine ty_skip rfl rfl ?_; (try simp only [Act.put, List.setIfInBounds_toArray, List.set_cons_zero, List.set_cons_succ]))
        | (refine ty_pure rfl rfl rfl rfl ?_; apply Exists.intro; refine ⟨fun wq hq hk => ?_, ?_⟩
           · have f0 := hq.blk Q1; simp only [pureAt]; go_simp; (try simp only [↓IntWalk.iteOmega]); (try go_bits); (try simp only [pureUpon]); (first | done | exact ⟨rfl, rfl⟩ | exact ⟨trivial, rfl⟩ | rfl)
           (try simp only [Act.put, List.setIfInBounds_toArray, List.set_cons_zero, List.set_cons_succ]))
      refine ty_rel rfl rfl _ rfl rfl (fun wq hq hk => ?_) ?_
      · have f0 := hq.blk Q1; simp only [relAt]; go_simp; (try simp only [relUpon]); (go_at_call 12; refine (HN.out _).mono ?_; rintro e w9 ⟨rfl, hb9⟩; exact ⟨_, rfl, .mk hb9 () rfl trivial⟩)
      rintro ⟨⟩
      (try simp only [Act.put, List.setIfInBounds_toArray, List.set_cons_zero, List.set_cons_succ])
      first
        | (refine ty_skip rfl rfl ?_; (try simp only [Act.put, List.setIfInBounds_toArray, List.set_cons_zero, List.set_cons_succ]))
        | (refine ty_pure rfl rfl rfl rfl ?_; apply Exists.intro; refine ⟨fun wq hq hk => ?_, ?_⟩
           · have f0 := hq.blk Q1; simp only [pureAt]; go_simp; (try simp only [↓IntWalk.iteOmega]); (try go_bits); (try simp only [pureUpon]); (first | done | exact ⟨rfl, rfl⟩ | exact ⟨trivial, rfl⟩ | rfl)
           (try simp only [Act.put, List.setIfInBounds_toArray, List.set_cons_zero, List.set_cons_succ]))
      first
        | (refine ty_skip rfl rfl ?_; (try simp only [Act.put, List.setIfInBounds_toArray, List.set_cons_zero, List.set_cons_succ]))
        | (refine ty_pure rfl rfl rfl rfl ?_; apply Exists.intro; refine ⟨fun wq hq hk => ?_, ?_⟩
           · have f0 := hq.blk Q1; simp only [pureAt]; go_simp; (try simp only [↓IntWalk.iteOmega]); (try go_bits); (try simp only [pureUpon]); (first | done | exact ⟨rfl, rfl⟩ | exact ⟨trivial, rfl⟩ | rfl)
           (try simp only [Act.put, List.setIfInBounds_toArray, List.set_cons_zero, List.set_cons_succ]))
      first
        | (refine ty_skip rfl rfl ?_; (try simp only [Act.put, List.setIfInBounds_toArray, List.set_cons_zero, List.set_cons_succ]))
        | (refine ty_late rfl rfl rfl ?_; apply Exists.intro; refine ⟨fun wq => ?_, ?_⟩
           · simp only [pureAt]; go_simp; (try simp only [↓IntWalk.iteOmega]); (try go_bits); (try simp only [pureUpon]); (first | done | exact ⟨rfl, rfl⟩ | exact ⟨trivial, rfl⟩ | rfl)
           (try simp only [Act.put, List.setIfInBounds_toArray, List.set_cons_zero, List.set_cons_succ]))
      refine ty_rel rfl rfl _ rfl rfl (fun wq hq hk => ?_) ?_
      · have f0 := hq.blk Q1; simp only [relAt]; go_simp; (try simp only [relUpon]); exact .mk ((Below.refl _ _).alloc (Nat.le_refl _) _) wq.heap.size rfl ⟨hq.size, Blk.new wq _ _⟩
      rintro (b10 : Nat)
      (try simp only [Act.put, List.setIfInBounds_toArray, List.set_cons_zero, List.set_cons_succ])
      refine ty_nil ?_
      simp only [List.drop_succ_cons, List.drop_zero]
      intro W8 hw8 hΓ
      have A10 : W1.heap.size ≤ b10 ∧ Blk W8 b10 #[.int .i64 0, .int .i64 0, .int .i64 0, .int .i64 0, .string ⟨#[]⟩] 24 := hΓ _ (.head _)
      have HB8 := Below.thn HB1 hw8.out HB1s
      have Q18 := Q1.below hw8.out
      have n1 : w.heap.size ≠ b10 := by have := A10.1; omega
      have g10 : w.heap.size ≤ b10 := by omega
      clear hΓ hw8 HB1 Q1
      refine wpList_put rfl 24 _ _ rfl b10 _ _ 24 rfl rfl A10.2 (by kernel_rfl) rfl (by first | rfl | decide | simp [Value.oneCell']) (fun W9 hp9 B9 => ?_)
      (try simp only [Act.put])
      have HB9 := hp9.below g10 HB8
      have Q19 := hp9.blk n1 Q18
      have HB9s := HB9.size
      clear A10 HB8 Q18 hp9 HB1s HL1
      go_wp2_with fail
      refine wp_region_gr (by kernel_rfl) (by kernel_rfl) ?_
      repeat (first
        | go_big_quiet_skip
        | ((refine BigFrame.wpQuiet_want rfl (fun K hK => quiet_mk ?_)); apply Exists.intro; refine ⟨fun wq hq => ?_, hK _ ?_⟩
           · have f0 := hq.blk B9; go_simp; (try simp only [↓IntWalk.iteOmega]); (try go_bits)
             first | done | rfl | exact ⟨rfl, rfl⟩ | exact ⟨trivial, rfl⟩
           clear hK K; (try simp only [Act.put, List.setIfInBounds_toArray, List.set_cons_zero, List.set_cons_succ])))
      refine wpQuiet_nil ?_
      intro W4 hw4
      have HB4 := Below.thn HB9 hw4.out HB9s
      have B4 := B9.below hw4.out
      have Q4 := Q19.below hw4.out
      have HB4s := HB4.size
      have Q4c := Q4.cell; have Q4f := Q4.frozen; have Q4l := Q4.lt
      clear HB9 B9 Q19 HB9s hw4
      go_wp2_with fail
      refine bodyPost_ret (v := .tuple #[VV 0 0 0 0 ⟨#[]⟩, .int .i64 4]) ?_ rfl ⟨rfl, ?_⟩
      · first | (simp [results, Try.results21, go_sem, Q4c]; done) | simp [results, Try.results21, go_sem, Q4c, Q4l]
      · repeat (first | (with_reducible assumption) | (with_reducible exact Below.refl _ _) | with_reducible apply bl_drewN | with_reducible apply Below.drew | (with_reducible apply bl_alloc; focus (first | (simp; done) | (simp; omega) | omega)) | (with_reducible apply bl_set; focus (first | (simp; done) | (simp; omega) | omega)))
  · have hN := fun W => new_bad (c0.toNat : Nat) (c1.toNat : Nat) W (by omega)
    have HN := Lib.hid hN
    rw [parse_none t (fun h => hdim (by have h5 := h.2.1; rw [B0.out, B1.out] at h5; exact h5))]
    unfold pv
    clear h4 hN hdim
    go_enter Try.func21, Try.ntmps21
    go_upto_region 3 with fail
    refine wp_absQ (fun W => Below w.heap.size w W ∧ w.heap.size < W.heap.size ∧ Blk W w.heap.size #[.int .i64 0, .int .i64 0, .int .i64 0, .int .i64 0, .string ⟨#[]⟩] 24) ⟨by (repeat (first | (with_reducible assumption) | (with_reducible exact Below.refl _ _) | with_reducible apply bl_drewN | with_reducible apply Below.drew | (with_reducible apply bl_alloc; focus (first | (simp; done) | (simp; omega) | omega)) | (with_reducible apply bl_set; focus (first | (simp; done) | (simp; omega) | omega)))), by simp, by (repeat (first | (with_reducible assumption) | (with_reducible apply Blk.new'; (first | (with_reducible rfl) | (simp; done))) | with_reducible apply Blk.alloc | with_reducible apply Blk.set | ((with_reducible apply Blk.set_ne); focus (first | (simp; done) | (simp; omega))) | with_reducible apply Blk.drewN | with_reducible apply Blk.drew))⟩ (fun W1 h5 => ?_)
    obtain ⟨HB1, HL1, Q1⟩ := h5
    have HB1s := HB1.size
    refine wp_region_typed 11 (fun k => match k with  | _ => []) (fun k => match k with | 9 => true | _ => false) (fun k => match k with | 6 => some ⟨(Unit), (()), (fun _ => .tuple #[VV 0 0 0 0 ⟨#[]⟩, .int .i64 7]), (fun _ _ => True), (fun _ _ _ h _ => h)⟩ | 10 => some ⟨(Nat), (0), (fun b => .pointer (some ⟨b, 0, none⟩)), (fun b w => W1.heap.size ≤ b ∧ Blk w b #[.int .i64 0, .int .i64 0, .int .i64 0, .int .i64 0, .string ⟨#[]⟩] 24), (fun b w w' h hb => ⟨h.1, h.2.below hb⟩)⟩ | _ => none) (by kernel_rfl) (by kernel_rfl) (by intro d0 v0 c0 a0 w0 h0; cases d0 <;> exact h0) ?_
    rw [show List.range 11 = [0, 1, 2, 3, 4, 5, 6, 7, 8, 9, 10] from rfl]
    first
      | (refine ty_skip rfl rfl ?_; (try simp only [Act.put, List.setIfInBounds_toArray, List.set_cons_zero, List.set_cons_succ]))
      | (refine ty_pure rfl rfl rfl rfl ?_; apply Exists.intro; refine ⟨fun wq hq hk => ?_, ?_⟩
         · have f0 := hq.blk Q1; simp only [pureAt]; go_simp; (try simp only [↓IntWalk.iteOmega]); (try go_bits); (try simp only [pureUpon]); (first | done | exact ⟨rfl, rfl⟩ | exact ⟨trivial, rfl⟩ | rfl)
         (try simp only [Act.put, List.setIfInBounds_toArray, List.set_cons_zero, List.set_cons_succ]))
    first
      | (refine ty_skip rfl rfl ?_; (try simp only [Act.put, List.setIfInBounds_toArray, List.set_cons_zero, List.set_cons_succ]))
      | (refine ty_pure rfl rfl rfl rfl ?_; apply Exists.intro; refine ⟨fun wq hq hk => ?_, ?_⟩
         · have f0 := hq.blk Q1; simp only [pureAt]; go_simp; (try simp only [↓IntWalk.iteOmega]); (try go_bits); (try simp only [pureUpon]); (first | done | exact ⟨rfl, rfl⟩ | exact ⟨trivial, rfl⟩ | rfl)
         (try simp only [Act.put, List.setIfInBounds_toArray, List.set_cons_zero, List.set_cons_succ]))
    first
      | (refine ty_skip rfl rfl ?_; (try simp only [Act.put, List.setIfInBounds_toArray, List.set_cons_zero, List.set_cons_succ]))
      | (refine ty_pure rfl rfl rfl rfl ?_; apply Exists.intro; refine ⟨fun wq hq hk => ?_, ?_⟩
         · have f0 := hq.blk Q1; simp only [pureAt]; go_simp; (try simp only [↓IntWalk.iteOmega]); (try go_bits); (try simp only [pureUpon]); (first | done | exact ⟨rfl, rfl⟩ | exact ⟨trivial, rfl⟩ | rfl)
         (try simp only [Act.put, List.setIfInBounds_toArray, List.set_cons_zero, List.set_cons_succ]))
    first
      | (refine ty_skip rfl rfl ?_; (try simp only [Act.put, List.setIfInBounds_toArray, List.set_cons_zero, List.set_cons_succ]))
      | (refine ty_pure rfl rfl rfl rfl ?_; apply Exists.intro; refine ⟨fun wq hq hk => ?_, ?_⟩
         · have f0 := hq.blk Q1; simp only [pureAt]; go_simp; (try simp only [↓IntWalk.iteOmega]); (try go_bits); (try simp only [pureUpon]); (first | done | exact ⟨rfl, rfl⟩ | exact ⟨trivial, rfl⟩ | rfl)
         (try simp only [Act.put, List.setIfInBounds_toArray, List.set_cons_zero, List.set_cons_succ]))
    first
      | (refine ty_skip rfl rfl ?_; (try simp only [Act.put, List.setIfInBounds_toArray, List.set_cons_zero, List.set_cons_succ]))
      | (refine ty_pure rfl rfl rfl rfl ?_; apply Exists.intro; refine ⟨fun wq hq hk => ?_, ?_⟩
         · have f0 := hq.blk Q1; simp only [pureAt]; go_simp; (try simp only [↓IntWalk.iteOmega]); (try go_bits); (try simp only [pureUpon]); (first | done | exact ⟨rfl, rfl⟩ | exact ⟨trivial, rfl⟩ | rfl)
         (try simp only [Act.put, List.setIfInBounds_toArray, List.set_cons_zero, List.set_cons_succ]))
    first
      | (refine ty_skip rfl rfl ?_; (try simp only [Act.put, List.setIfInBounds_toArray, List.set_cons_zero, List.set_cons_succ]))
      | (refine ty_pure rfl rfl rfl rfl ?_; apply Exists.intro; refine ⟨fun wq hq hk => ?_, ?_⟩
         · have f0 := hq.blk Q1; simp only [pureAt]; go_simp; (try simp only [↓IntWalk.iteOmega]); (try go_bits); (try simp only [pureUpon]); (first | done | exact ⟨rfl, rfl⟩ | exact ⟨trivial, rfl⟩ | rfl)
         (try simp only [Act.put, List.setIfInBounds_toArray, List.set_cons_zero, List.set_cons_succ]))
    refine ty_rel rfl rfl _ rfl rfl (fun wq hq hk => ?_) ?_
    · have f0 := hq.blk Q1; simp only [relAt]; go_simp; (try simp only [relUpon]); (go_at_call 12; refine (HN.out _).mono ?_; rintro e w9 ⟨rfl, hb9⟩; exact ⟨_, rfl, .mk hb9 () rfl trivial⟩)
    rintro ⟨⟩
    (try simp only [Act.put, List.setIfInBounds_toArray, List.set_cons_zero, List.set_cons_succ])
    first
      | (refine ty_skip rfl rfl ?_; (try simp only [Act.put, List.setIfInBounds_toArray, List.set_cons_zero, List.set_cons_succ]))
      | (refine ty_pure rfl rfl rfl rfl ?_; apply Exists.intro; refine ⟨fun wq hq hk => ?_, ?_⟩
         · have f0 := hq.blk Q1; simp only [pureAt]; go_simp; (try simp only [↓IntWalk.iteOmega]); (try go_bits); (try simp only [pureUpon]); (first | done | exact ⟨rfl, rfl⟩ | exact ⟨trivial, rfl⟩ | rfl)
         (try simp only [Act.put, List.setIfInBounds_toArray, List.set_cons_zero, List.set_cons_succ]))
    first
      | (refine ty_skip rfl rfl ?_; (try simp only [Act.put, List.setIfInBounds_toArray, List.set_cons_zero, List.set_cons_succ]))
      | (refine ty_pure rfl rfl rfl rfl ?_; apply Exists.intro; refine ⟨fun wq hq hk => ?_, ?_⟩
         · have f0 := hq.blk Q1; simp only [pureAt]; go_simp; (try simp only [↓IntWalk.iteOmega]); (try go_bits); (try simp only [pureUpon]); (first | done | exact ⟨rfl, rfl⟩ | exact ⟨trivial, rfl⟩ | rfl)
         (try simp only [Act.put, List.setIfInBounds_toArray, List.set_cons_zero, List.set_cons_succ]))
    first
      | (refine ty_skip rfl rfl ?_; (try simp only [Act.put, List.setIfInBounds_toArray, List.set_cons_zero, List.set_cons_succ]))
      | (refine ty_late rfl rfl rfl ?_; apply Exists.intro; refine ⟨fun wq => ?_, ?_⟩
         · simp only [pureAt]; go_simp; (try simp only [↓IntWalk.iteOmega]); (try go_bits); (try simp only [pureUpon]); (first | done | exact ⟨rfl, rfl⟩ | exact ⟨trivial, rfl⟩ | rfl)
         (try simp only [Act.put, List.setIfInBounds_toArray, List.set_cons_zero, List.set_cons_succ]))
    refine ty_rel rfl rfl _ rfl rfl (fun wq hq hk => ?_) ?_
    · have f0 := hq.blk Q1; simp only [relAt]; go_simp; (try simp only [relUpon]); exact .mk ((Below.refl _ _).alloc (Nat.le_refl _) _) wq.heap.size rfl ⟨hq.size, Blk.new wq _ _⟩
    rintro (b10 : Nat)
    (try simp only [Act.put, List.setIfInBounds_toArray, List.set_cons_zero, List.set_cons_succ])
    refine ty_nil ?_
    simp only [List.drop_succ_cons, List.drop_zero]
    intro W8 hw8 hΓ
    have A10 : W1.heap.size ≤ b10 ∧ Blk W8 b10 #[.int .i64 0, .int .i64 0, .int .i64 0, .int .i64 0, .string ⟨#[]⟩] 24 := hΓ _ (.head _)
    have HB8 := Below.thn HB1 hw8.out HB1s
    have Q18 := Q1.below hw8.out
    have n1 : w.heap.size ≠ b10 := by have := A10.1; omega
    have g10 : w.heap.size ≤ b10 := by omega
    clear hΓ hw8 HB1 Q1
    refine wpList_put rfl 24 _ _ rfl b10 _ _ 24 rfl rfl A10.2 (by kernel_rfl) rfl (by first | rfl | decide | simp [Value.oneCell']) (fun W9 hp9 B9 => ?_)
    (try simp only [Act.put])
    have HB9 := hp9.below g10 HB8
    have Q19 := hp9.blk n1 Q18
    have HB9s := HB9.size
    clear A10 HB8 Q18 hp9 HB1s HL1
    go_wp2_with fail
    refine wp_region_gr (by kernel_rfl) (by kernel_rfl) ?_
    repeat (first
      | go_big_quiet_skip
      | ((refine BigFrame.wpQuiet_want rfl (fun K hK => quiet_mk ?_)); apply Exists.intro; refine ⟨fun wq hq => ?_, hK _ ?_⟩
         · have f0 := hq.blk B9; go_simp; (try simp only [↓IntWalk.iteOmega]); (try go_bits)
           first | done | rfl | exact ⟨rfl, rfl⟩ | exact ⟨trivial, rfl⟩
         clear hK K; (try simp only [Act.put, List.setIfInBounds_toArray, List.set_cons_zero, List.set_cons_succ])))
    refine wpQuiet_nil ?_
    intro W4 hw4
    have HB4 := Below.thn HB9 hw4.out HB9s
    have B4 := B9.below hw4.out
    have Q4 := Q19.below hw4.out
    have HB4s := HB4.size
    have Q4c := Q4.cell; have Q4f := Q4.frozen; have Q4l := Q4.lt
    clear HB9 B9 Q19 HB9s hw4
    go_wp2_with fail
    refine bodyPost_ret (v := .tuple #[VV 0 0 0 0 ⟨#[]⟩, .int .i64 4]) ?_ rfl ⟨rfl, ?_⟩
    · first | (simp [results, Try.results21, go_sem, Q4c]; done) | simp [results, Try.results21, go_sem, Q4c, Q4l]
    · repeat (first | (with_reducible assumption) | (with_reducible exact Below.refl _ _) | with_reducible apply bl_drewN | with_reducible apply Below.drew | (with_reducible apply bl_alloc; focus (first | (simp; done) | (simp; omega) | omega)) | (with_reducible apply bl_set; focus (first | (simp; done) | (simp; omega) | omega)))
end Go.Proofs.Ytgdmeaoghhkknaa
