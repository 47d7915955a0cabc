/- Package aes: Encrypt. -/
import Derived.Test.YtkblkdojmfgneaaAes6
namespace Go.Proofs.Ytkblkdojmfgneaa
open Go.RowKit

/-- Memory, as a block is encrypted. -/
structure EAt (w wr : World) (K : Array Value) (b : Nat) (x : List UInt8) : Prop where
  HB : Below b w wr
  K : Blk wr b K 29
  X : Blk wr (b + 1) (bcells x) 25
  Z : Blk wr (b + 1 + 1) z16 25
  hs : b + 1 + 1 < wr.heap.size
theorem EAt.below {w wr w' : World} {K : Array Value} {b : Nat} {x : List UInt8} (h : EAt w wr K b x) (hb : Below wr.heap.size wr w') : EAt w w' K b x :=
  ⟨Below.thn h.HB hb (by have := h.hs; omega), h.K.below hb, h.X.below hb, h.Z.below hb, Nat.lt_of_lt_of_le h.hs hb.size⟩
theorem EAt.put {w wr w' : World} {K : Array Value} {b : Nat} {x y : List UInt8} (h : EAt w wr K b x) (hp : Put (b + 1) wr w') (Y : Blk w' (b + 1) (bcells y) 25) : EAt w w' K b y :=
  ⟨hp.below (by omega) h.HB, hp.blk (by omega) h.K, Y, hp.blk (by omega) h.Z, by rw [hp.size]; exact h.hs⟩
theorem Blk.range {w : World} {b : Nat} {l : List Value} {t : TypeId} (h : Blk w b l.toArray t) : w.rangeAt b 0 l := fun j v hv => by
  rw [Nat.zero_add, h.cell, List.getElem?_toArray, hv]
theorem key_range (key : List UInt8) (hk : key.length = 16) (r b : Nat) (hr : r ≤ 10) (W : World) (B : Blk W b (kcells (keysN key 10)).toArray 29) : W.rangeAt b (1 + r * 16) ((keyR key r).map bval) := fun j v hv => by
  have hl := keyR_len key hk r
  have hj : j < 16 := by have := (List.getElem?_eq_some_iff.1 hv).1; rw [List.length_map] at this; omega
  rw [B.cell, Nat.add_assoc, kcells_get _ _ (by rw [keysN_len key hk]; omega), Nat.mul_comm r 16, keysN_get key hk r j hj 10 hr, ← hv, List.getElem?_map, List.getD_eq_getElem?_getD, List.getElem?_eq_getElem (by omega)]; rfl
set_option maxHeartbeats 8000000 in
set_option maxRecDepth 20000 in
theorem encrypt_any (key l : List UInt8) (hk : key.length = 16) (hl : l.length = 16) (w : World) : Calls Try.prog 23 #[.agg (kcells (keysN key 10)).toArray, .agg (bcells l)] w fun e w' => e = .returned (.agg (bcells (encL key l))) ∧ Below w.heap.size w w' := by
  have hkl := keysN_len key hk 10
  have hone := kcells_one (keysN key 10)
  have hKs : (kcells (keysN key 10)).toArray.size = 433 := by rw [List.size_toArray, kcells_len _ hkl]
  have hwh := fun W => whole_key (keysN key 10) hkl W
  have htn := fun (x : List UInt8) (hx : x.length = 16) (kb : Nat) (W : World) (B : Blk W kb (kcells (keysN key 10)).toArray 29) => turned_any (keysN key 10) x hkl hx kb W B
  have hrg := key_range key hk
  obtain ⟨K, hK⟩ : ∃ K, (kcells (keysN key 10)).toArray = K := ⟨_, rfl⟩
  rw [hK] at hone hKs hwh htn hrg ⊢
  have HWH := Lib.hid hwh; have HTN := Lib.hid htn; have HRG := Lib.hid hrg; have HKL := Lib.hid hk
  obtain ⟨E, hE⟩ : ∃ E, encL key l = E := ⟨_, rfl⟩
  rw [hE]
  have hE1 : encGo key 10 1 (addL l (keyR key 0)) = E := hE
  have HE := Lib.hid hE1
  have hls := bcells_len l hl
  have hal := addL_len l (keyR key 0) hl (keyR_len key hk 0)
  clear hK hwh htn hrg hE hE1 hkl
  go_enter Try.func23, Try.ntmps23
  go_upto_region 1 with fail
  refine wp_absQ (fun W => EAt w W K w.heap.size l) ⟨by (repeat (first | (with_reducible assumption) | (with_reducible exact Below.refl _ _) | with_reducible apply bl_drewN | with_reducible apply Below.drew | (with_reducible apply bl_alloc; focus (first | (simp; done) | (simp; omega) | omega)) | (with_reducible apply bl_set; focus (first | (simp; done) | (simp; omega) | omega)))), by (repeat (first | (with_reducible assumption) | (with_reducible apply Blk.new'; (first | (with_reducible rfl) | (simp; done))) | with_reducible apply Blk.alloc | with_reducible apply Blk.set | ((with_reducible apply Blk.set_ne); focus (first | (simp; done) | (simp; omega))) | with_reducible apply Blk.drewN | with_reducible apply Blk.drew)), by (repeat (first | (with_reducible assumption) | (with_reducible apply Blk.new'; (first | (with_reducible rfl) | (simp; done))) | with_reducible apply Blk.alloc | with_reducible apply Blk.set | ((with_reducible apply Blk.set_ne); focus (first | (simp; done) | (simp; omega))) | with_reducible apply Blk.drewN | with_reducible apply Blk.drew)), Blk.new' (by simp), by simp⟩ (fun W1 V1 => ?_)
  obtain ⟨b, hb⟩ : ∃ b, w.heap.size = b := ⟨_, rfl⟩
  have HBb := Lib.hid hb
  rw [hb] at V1 ⊢
  clear hb
  go_wp2_with (refine wpList_load_row rfl 29 _ rfl b rfl 29 _ (0, 0) _ V1.K.out Try.underlying29 rfl (by rw [hKs]; kernel_rfl) ?_)
  refine (HWH.out _).mono ?_
  rintro e W2 ⟨rfl, hb2⟩
  have V2 := V1.below hb2
  clear V1 hb2
  go_upto_region 2 with (refine wpList_put rfl 29 _ _ rfl b _ _ 29 rfl rfl V2.K (by rw [hKs]; kernel_rfl) rfl hone (fun W3 hp3 K3 => ?_))
  have V3 : EAt w W3 K b l := ⟨hp3.below (by omega) V2.HB, K3, hp3.blk (by omega) V2.X, hp3.blk (by omega) V2.Z, by rw [hp3.size]; exact V2.hs⟩
  clear V2 hp3 K3
  (try simp only [Act.put])
  have hr0 := HRG.out 0 b (by decide) W3 V3.K
  rw [Nat.zero_mul, Nat.add_zero] at hr0
  have hm0 : ((keyR key 0).map bval).length = 16 := by rw [List.length_map, keyR_len key HKL.out]
  go_wp2_with (first | (refine wpList_load_row rfl 25 _ rfl (b + 1) rfl 25 _ (0, 0) _ V3.X.out Try.underlying25 rfl (by rw [hls]; kernel_rfl) ?_) | (refine wpList_load_mid rfl 25 _ rfl b 1 rfl _ _ hr0 Try.underlying25 rfl (by rw [hm0]; kernel_rfl) ?_))
  refine (add_any l (keyR key 0) hl (keyR_len key HKL.out 0) _).mono ?_
  rintro e W4 ⟨rfl, hb4⟩
  have V4 := V3.below hb4
  clear V3 hb4 hr0 hm0
  obtain ⟨x0, hx0⟩ : ∃ x, addL l (keyR key 0) = x := ⟨_, rfl⟩
  rw [hx0] at HE hal ⊢
  have hxs := bcells_len x0 hal
  go_upto_region 3 with (refine wpList_put rfl 25 _ _ rfl (b + 1) _ _ 25 rfl rfl V4.X (by rw [hxs]; kernel_rfl) (hxs.trans hls.symm) (bcells_one x0) (fun W5 hp5 X5 => ?_))
  (try simp only [Act.put])
  have V5 := V4.put hp5 X5
  clear V4 hp5 X5 hxs hx0 hls hl
  go_wp2_with fail
  go_loopg [5] 10 (fun gk t5 wr => ∃ (r : Nat) (x : List UInt8), r + gk = 11 ∧ t5 = .int .i64 (r : Int) ∧ x.length = 16 ∧ encGo key gk r x = E ∧ EAt w wr K b x)
  case atStart => exact ⟨1, x0, rfl, rfl, hal, HE.out, V5⟩
  case round =>
    clear V5 HE hal
    obtain ⟨r, x, hrg, rfl, hxl, hgo, V⟩ := hrel
    have hxs := bcells_len x hxl
    cases gk with
    | zero =>
      obtain rfl : r = 11 := by omega
      rw [encGo] at hgo
      subst hgo
      have hone := bcells_one x
      clear hrg
      obtain ⟨R, hR⟩ : ∃ R, bcells x = R := ⟨_, rfl⟩
      have X := V.X
      rw [hR] at X hone hxs
      go_wp2_with (first | (refine wpList_load_row rfl 25 _ rfl (b + 1) rfl 25 _ (0, 0) _ X.out Try.underlying25 rfl (by rw [hxs]; kernel_rfl) ?_) | (refine wpList_put rfl 25 _ _ rfl (b + 1 + 1) _ _ 25 rfl rfl V.Z (by rw [hxs]; kernel_rfl) (hxs.trans rfl) hone (fun W9 hp9 B9 => ?_)))
      refine bodyPost_ret (v := .agg R) ?_ rfl ⟨by rw [hR], by rw [HBb.out]; exact hp9.below (by omega) V.HB⟩
      exact results_cell_row (Try.results23) _ _ (b + 1 + 1) 25 _ (0, 0) _ rfl B9.out Try.underlying25 rfl (by rw [hxs]; kernel_rfl)
    | succ g =>
      rw [encGo] at hgo
      have hr10 : (r : Int) ≤ 10 := by omega
      have hts := turnedL_len x
      have HG := Lib.hid hgo
      have HRGG := Lib.hid hrg
      have hr10n : r ≤ 10 := by omega
      clear hgo hrg
      go_wp2_with (refine wpList_load_row rfl 25 _ rfl (b + 1) rfl 25 _ (0, 0) _ V.X.out Try.underlying25 rfl (by rw [hxs]; kernel_rfl) ?_)
      refine (HTN.out x hxl b _ V.K).mono ?_
      rintro e W6 ⟨rfl, hb6⟩
      have V6 := V.below hb6
      obtain ⟨y, hy⟩ : ∃ y, turnedL x = y := ⟨_, rfl⟩
      rw [hy] at hts HG ⊢
      have hys := bcells_len y hts
      clear V hb6 hy
      go_upto_region 7 with (refine wpList_put rfl 25 _ _ rfl (b + 1) _ _ 25 rfl rfl V6.X (by rw [hys]; kernel_rfl) (hys.trans hxs.symm) (bcells_one y) (fun W7 hp7 X7 => ?_))
      (try simp only [Act.put])
      have V7 := V6.put hp7 X7
      clear V6 hp7 X7 hxs hxl
      by_cases h10 : r < 10
      · have h10i : (r : Int) < 10 := by omega
        have hg := HG.out
        rw [if_pos h10] at hg
        clear h10 HG
        go_wp2_with (refine wpList_load_row rfl 25 _ rfl (b + 1) rfl 25 _ (0, 0) _ V7.X.out Try.underlying25 rfl (by rw [hys]; kernel_rfl) ?_)
        refine (mixed_any y hts _).mono ?_
        rintro e W8 ⟨rfl, hb8⟩
        have V8 := V7.below hb8
        have hml := mixedL_len y
        obtain ⟨z, hz⟩ : ∃ z, mixedL y = z := ⟨_, rfl⟩
        rw [hz] at hml hg ⊢
        have hzs0 := bcells_len z hml
        clear V7 hb8 hz
        go_upto_region 9 with (refine wpList_put rfl 25 _ _ rfl (b + 1) _ _ 25 rfl rfl V8.X (by rw [hzs0]; kernel_rfl) (hzs0.trans hys.symm) (bcells_one z) (fun W7 hp7 X7 => ?_))
        (try simp only [Act.put])
        have V7 := V8.put hp7 X7
        clear V8 hp7 X7 hys hts
        have hzs := bcells_len z hml
        have hkrl : ((keyR key r).map bval).length = 16 := by rw [List.length_map, keyR_len key HKL.out]
        have hzl : (z.map bval).length = 16 := by rw [List.length_map, hml]
        have hal := addL_len z (keyR key r) hml (keyR_len key HKL.out r)
        have hr11 : (r : Int) < 11 := by omega
        have hbs := V7.HB.size
        have hkn : (keyR key r).map bval = (keyR key r).map bval := rfl
        go_wp2_with fail
        refine wp_region_typed 6 (fun k => match k with  | _ => []) (fun k => match k with  | _ => false) (fun k => match k with | 0 => some ⟨(Unit), (()), (fun _ => .agg (bcells z)), (fun _ _ => True), (fun _ _ _ h _ => h)⟩ | 4 => some ⟨(Unit), (()), (fun _ => .agg (bcells (keyR key r))), (fun _ _ => True), (fun _ _ _ h _ => h)⟩ | 5 => some ⟨(Unit), (()), (fun _ => .agg (bcells (addL z (keyR key r)))), (fun _ _ => True), (fun _ _ _ h _ => h)⟩ | _ => none) (by kernel_rfl) (by kernel_rfl) (by intro d0 v0 c0 a0 w0 h0; first | (cases d0 <;> exact h0) | exact hP _ _ _ _ _ h0) ?_
        rw [show List.range 6 = [0, 1, 2, 3, 4, 5] from rfl]
        refine ty_rel rfl rfl _ rfl rfl (fun wq hq hk => ?_) ?_
        · exact rel_load_mid _ _ rfl (b + 1) 0 rfl (z.map bval) _ (Blk.range (V7.X.gr hq)) Try.underlying25 rfl (by rw [hzl]; kernel_rfl) (.mk (Below.refl _ _) () rfl trivial)
        rintro ⟨⟩
        (try simp only [Act.put, List.setIfInBounds_toArray, List.set_cons_zero, List.set_cons_succ])
        first
          | (refine ty_skip rfl rfl ?_; (try simp only [Act.put, List.setIfInBounds_toArray, List.set_cons_zero, List.set_cons_succ]))
          | (refine ty_pure rfl rfl rfl rfl ?_; apply Exists.intro; refine ⟨fun wq hq hk => ?_, ?_⟩
             · simp only [pureAt]; go_simp; (try simp only [↓IntWalk.iteOmega]); (try go_bits); (try simp only [pureUpon]); (first | done | exact ⟨rfl, rfl⟩ | exact ⟨trivial, rfl⟩ | rfl)
             (try simp only [Act.put, List.setIfInBounds_toArray, List.set_cons_zero, List.set_cons_succ]))
        first
          | (refine ty_skip rfl rfl ?_; (try simp only [Act.put, List.setIfInBounds_toArray, List.set_cons_zero, List.set_cons_succ]))
          | (refine ty_pure rfl rfl rfl rfl ?_; apply Exists.intro; refine ⟨fun wq hq hk => ?_, ?_⟩
             · simp only [pureAt]; go_simp; (try simp only [↓IntWalk.iteOmega]); (try go_bits); (try simp only [pureUpon]); (first | done | exact ⟨rfl, rfl⟩ | exact ⟨trivial, rfl⟩ | rfl)
             (try simp only [Act.put, List.setIfInBounds_toArray, List.set_cons_zero, List.set_cons_succ]))
        first
          | (refine ty_skip rfl rfl ?_; (try simp only [Act.put, List.setIfInBounds_toArray, List.set_cons_zero, List.set_cons_succ]))
          | (refine ty_pure rfl rfl rfl rfl ?_; apply Exists.intro; refine ⟨fun wq hq hk => ?_, ?_⟩
             · simp only [pureAt]; go_simp; (try simp only [↓IntWalk.iteOmega]); (try go_bits); (try simp only [pureUpon]); (first | done | exact ⟨rfl, rfl⟩ | exact ⟨trivial, rfl⟩ | rfl)
             (try simp only [Act.put, List.setIfInBounds_toArray, List.set_cons_zero, List.set_cons_succ]))
        refine ty_rel rfl rfl _ rfl rfl (fun wq hq hk => ?_) ?_
        · exact rel_load_mid _ _ rfl b (1 + r * 16) rfl ((keyR key r).map bval) _ (HRG.out r b hr10n _ (V7.K.gr hq)) Try.underlying25 rfl (by rw [hkrl]; kernel_rfl) (.mk (Below.refl _ _) () rfl trivial)
        rintro ⟨⟩
        (try simp only [Act.put, List.setIfInBounds_toArray, List.set_cons_zero, List.set_cons_succ])
        refine ty_rel rfl rfl _ rfl rfl (fun wq hq hk => ?_) ?_
        · simp only [relAt]; go_simp; (try simp only [relUpon]); (go_at_call 60; refine (add_any z (keyR key r) hml (keyR_len key HKL.out r) _).mono ?_; rintro e w9 ⟨rfl, hb9⟩; exact ⟨_, rfl, .mk hb9 () rfl trivial⟩)
        rintro ⟨⟩
        (try simp only [Act.put, List.setIfInBounds_toArray, List.set_cons_zero, List.set_cons_succ])
        refine ty_nil ?_
        simp only [List.drop_succ_cons, List.drop_zero]
        intro W9 hw9 hΓ
        clear hΓ
        have V9 := V7.below hw9.out
        obtain ⟨u, hu⟩ : ∃ u, addL z (keyR key r) = u := ⟨_, rfl⟩
        rw [hu] at hal hg ⊢
        have hus := bcells_len u hal
        have HGG := Lib.hid hg
        clear V7 hw9 hu
        go_wp2_with (refine wpList_put rfl 25 _ _ rfl (b + 1) _ _ 25 rfl rfl V9.X (by rw [hus]; kernel_rfl) (hus.trans hzs.symm) (bcells_one u) (fun W10 hp10 X10 => ?_))
        have V10 := V9.put hp10 X10
        clear V9 hp10 X10
        go_roundg g
        case rel => exact ⟨r + 1, u, by have := HRGG.out; omega, by simp, hal, HGG.out, V10⟩
        case measure => omega
      · have h10i : ¬ (r : Int) < 10 := by omega
        have hg := HG.out
        rw [if_neg h10] at hg
        clear h10 HG
        have hzs := bcells_len y hts
        have hkrl : ((keyR key r).map bval).length = 16 := by rw [List.length_map, keyR_len key HKL.out]
        have hzl : (y.map bval).length = 16 := by rw [List.length_map, hts]
        have hal := addL_len y (keyR key r) hts (keyR_len key HKL.out r)
        have hr11 : (r : Int) < 11 := by omega
        have hbs := V7.HB.size
        have hkn : (keyR key r).map bval = (keyR key r).map bval := rfl
        go_wp2_with fail
        refine wp_region_typed 6 (fun k => match k with  | _ => []) (fun k => match k with  | _ => false) (fun k => match k with | 0 => some ⟨(Unit), (()), (fun _ => .agg (bcells y)), (fun _ _ => True), (fun _ _ _ h _ => h)⟩ | 4 => some ⟨(Unit), (()), (fun _ => .agg (bcells (keyR key r))), (fun _ _ => True), (fun _ _ _ h _ => h)⟩ | 5 => some ⟨(Unit), (()), (fun _ => .agg (bcells (addL y (keyR key r)))), (fun _ _ => True), (fun _ _ _ h _ => h)⟩ | _ => none) (by kernel_rfl) (by kernel_rfl) (by intro d0 v0 c0 a0 w0 h0; first | (cases d0 <;> exact h0) | exact hP _ _ _ _ _ h0) ?_
        rw [show List.range 6 = [0, 1, 2, 3, 4, 5] from rfl]
        refine ty_rel rfl rfl _ rfl rfl (fun wq hq hk => ?_) ?_
        · exact rel_load_mid _ _ rfl (b + 1) 0 rfl (y.map bval) _ (Blk.range (V7.X.gr hq)) Try.underlying25 rfl (by rw [hzl]; kernel_rfl) (.mk (Below.refl _ _) () rfl trivial)
        rintro ⟨⟩
        (try simp only [Act.put, List.setIfInBounds_toArray, List.set_cons_zero, List.set_cons_succ])
        first
          | (refine ty_skip rfl rfl ?_; (try simp only [Act.put, List.setIfInBounds_toArray, List.set_cons_zero, List.set_cons_succ]))
          | (refine ty_pure rfl rfl rfl rfl ?_; apply Exists.intro; refine ⟨fun wq hq hk => ?_, ?_⟩
             · simp only [pureAt]; go_simp; (try simp only [↓IntWalk.iteOmega]); (try go_bits); (try simp only [pureUpon]); (first | done | exact ⟨rfl, rfl⟩ | exact ⟨trivial, rfl⟩ | rfl)
             (try simp only [Act.put, List.setIfInBounds_toArray, List.set_cons_zero, List.set_cons_succ]))
        first
          | (refine ty_skip rfl rfl ?_; (try simp only [Act.put, List.setIfInBounds_toArray, List.set_cons_zero, List.set_cons_succ]))
          | (refine ty_pure rfl rfl rfl rfl ?_; apply Exists.intro; refine ⟨fun wq hq hk => ?_, ?_⟩
             · simp only [pureAt]; go_simp; (try simp only [↓IntWalk.iteOmega]); (try go_bits); (try simp only [pureUpon]); (first | done | exact ⟨rfl, rfl⟩ | exact ⟨trivial, rfl⟩ | rfl)
             (try simp only [Act.put, List.setIfInBounds_toArray, List.set_cons_zero, List.set_cons_succ]))
        first
          | (refine ty_skip rfl rfl ?_; (try simp only [Act.put, List.setIfInBounds_toArray, List.set_cons_zero, List.set_cons_succ]))
          | (refine ty_pure rfl rfl rfl rfl ?_; apply Exists.intro; refine ⟨fun wq hq hk => ?_, ?_⟩
             · simp only [pureAt]; go_simp; (try simp only [↓IntWalk.iteOmega]); (try go_bits); (try simp only [pureUpon]); (first | done | exact ⟨rfl, rfl⟩ | exact ⟨trivial, rfl⟩ | rfl)
             (try simp only [Act.put, List.setIfInBounds_toArray, List.set_cons_zero, List.set_cons_succ]))
        refine ty_rel rfl rfl _ rfl rfl (fun wq hq hk => ?_) ?_
        · exact rel_load_mid _ _ rfl b (1 + r * 16) rfl ((keyR key r).map bval) _ (HRG.out r b hr10n _ (V7.K.gr hq)) Try.underlying25 rfl (by rw [hkrl]; kernel_rfl) (.mk (Below.refl _ _) () rfl trivial)
        rintro ⟨⟩
        (try simp only [Act.put, List.setIfInBounds_toArray, List.set_cons_zero, List.set_cons_succ])
        refine ty_rel rfl rfl _ rfl rfl (fun wq hq hk => ?_) ?_
        · simp only [relAt]; go_simp; (try simp only [relUpon]); (go_at_call 60; refine (add_any y (keyR key r) hts (keyR_len key HKL.out r) _).mono ?_; rintro e w9 ⟨rfl, hb9⟩; exact ⟨_, rfl, .mk hb9 () rfl trivial⟩)
        rintro ⟨⟩
        (try simp only [Act.put, List.setIfInBounds_toArray, List.set_cons_zero, List.set_cons_succ])
        refine ty_nil ?_
        simp only [List.drop_succ_cons, List.drop_zero]
        intro W9 hw9 hΓ
        clear hΓ
        have V9 := V7.below hw9.out
        obtain ⟨u, hu⟩ : ∃ u, addL y (keyR key r) = u := ⟨_, rfl⟩
        rw [hu] at hal hg ⊢
        have hus := bcells_len u hal
        have HGG := Lib.hid hg
        clear V7 hw9 hu
        go_wp2_with (refine wpList_put rfl 25 _ _ rfl (b + 1) _ _ 25 rfl rfl V9.X (by rw [hus]; kernel_rfl) (hus.trans hzs.symm) (bcells_one u) (fun W10 hp10 X10 => ?_))
        have V10 := V9.put hp10 X10
        clear V9 hp10 X10
        go_roundg g
        case rel => exact ⟨r + 1, u, by have := HRGG.out; omega, by simp, hal, HGG.out, V10⟩
        case measure => omega
end Go.Proofs.Ytkblkdojmfgneaa
