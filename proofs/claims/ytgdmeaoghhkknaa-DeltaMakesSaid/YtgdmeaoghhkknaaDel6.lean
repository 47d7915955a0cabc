/- Package delta: Do, part by part. -/
import Derived.Test.YtgdmeaoghhkknaaDel5
namespace Go.Proofs.Ytgdmeaoghhkknaa
open Go.RowKit

theorem appD_one (w h : Nat) (c : List UInt8) (a : UInt8) : appD w h c [a] = none := by rw [appD] <;> simp
theorem appD_two (w h : Nat) (c : List UInt8) (a b : UInt8) : appD w h c [a, b] = none := by rw [appD] <;> simp
theorem appD_cons (w h : Nat) (cells : List UInt8) (y x n : UInt8) (r : List UInt8) : appD w h cells (y :: x :: n :: r) =
    if y.toNat < h ∧ x.toNat + n.toNat ≤ w ∧ n.toNat ≤ r.length then
      appD w h (cells.take (y.toNat * w + x.toNat) ++ r.take n.toNat ++ cells.drop (y.toNat * w + x.toNat + n.toNat)) (r.drop n.toNat)
    else none := by rw [appD]
set_option maxHeartbeats 16000000 in
set_option maxRecDepth 20000 in
theorem do_parts (s : Scr) (d : ByteArray) (w : World) (hs : s.Ok) (hd : d.size ≤ 10000) (x0 y0 : UInt8) (r : List UInt8) (hl : d.data.toList = 100 :: x0 :: y0 :: r) :
    Calls Try.prog 28 #[VV s.w s.h s.x s.y (txt s.b), .string d] w fun e w' => e = .returned (pv (doL s d.data.toList)) ∧ Below w.heap.size w w' := by
  have hsz : d.size = 3 + r.length := by show d.data.toList.length = _; rw [hl]; simp; omega
  have CUT := Lib.hid (cut_no d 102 (by rw [hl]; simp))
  have HAS := Lib.hid (has_is d 100 true (decide_eq_true (by rw [hl]; rfl)))
  have hdo := doL_d s x0 y0 r
  rw [← hl] at hdo
  obtain ⟨q, hq⟩ : ∃ r : ByteArray, r = ⟨#[UInt8.ofNat s.w, UInt8.ofNat s.h, x0, y0]⟩ := ⟨_, rfl⟩
  have hfail : appD s.w s.h s.b r = none → Value.tuple #[VV 0 0 0 0 ⟨#[]⟩, .int .i64 4] = pv (doL s d.data.toList) := fun h => by rw [hdo, h]; rfl
  have hdone : ∀ cells, appD s.w s.h s.b r = some cells → cells.length = s.w * s.h → ∀ W, Calls Try.prog 45 #[VV s.w s.h s.x s.y (txt s.b), .string d, .string (q ++ txt cells)] W fun e w' => e = .returned (pv (doL s d.data.toList)) ∧ Below W.heap.size W w' := fun cells h hcl W => by
    have h5 := checked_any s d (q ++ txt cells) W hs (by
      rw [ByteArray.size_append, txt_size, hcl, hq]
      have := wh_small hs.w2 hs.h2
      show 4 + _ ≤ _; omega)
    rw [hdo, h]
    have e : (q ++ txt cells).data.toList = [UInt8.ofNat s.w, UInt8.ofNat s.h, x0, y0] ++ cells := by rw [ba_app, hq]; rfl
    rw [e] at h5
    exact h5
  obtain ⟨ra, rb, rc, rd, rt, rz, hR⟩ := pv_form (doL s d.data.toList)
  rw [hR] at hfail hdone ⊢
  have g0 : 0 < d.size := by omega
  have g1 : 1 < d.size := by omega
  have g2 : 2 < d.size := by omega
  have k1 : (1 : Int) < d.size := by omega
  have k2 : (2 : Int) < d.size := by omega
  have k3 : (3 : Int) ≤ d.size := by omega
  have h3i : ¬ (d.size : Int) < 3 := by omega
  have i1 : d[1] = x0 := by
    have h5 := ba_getD d 1 g1
    rw [hl] at h5; exact h5.symm
  have i2 : d[2] = y0 := by
    have h5 := ba_getD d 2 g2
    rw [hl] at h5; exact h5.symm
  obtain ⟨d3, hd3⟩ : ∃ x, d.extract 3 d.size = x := ⟨_, rfl⟩
  have hd3l : d3.data.toList = r := by
    rw [← hd3, ba_extract, hl]
    simp only [List.drop_succ_cons, List.drop_zero]
    rw [List.take_of_length_le (by omega)]
  obtain ⟨cw, hcw⟩ : ∃ k, s.w = k := ⟨_, rfl⟩
  obtain ⟨ch, hch⟩ : ∃ k, s.h = k := ⟨_, rfl⟩
  have w1 : 1 ≤ cw := by rw [← hcw]; exact hs.w1
  have w2 : cw ≤ 80 := by rw [← hcw]; exact hs.w2
  have h1 : 1 ≤ ch := by rw [← hch]; exact hs.h1
  have h2 : ch ≤ 24 := by rw [← hch]; exact hs.h2
  have hsl := hs.len
  rw [hcw, hch] at hfail hdone hsl hq ⊢
  obtain ⟨sx, hsx⟩ : ∃ k, s.x = k := ⟨_, rfl⟩
  obtain ⟨sy, hsy⟩ : ∃ k, s.y = k := ⟨_, rfl⟩
  obtain ⟨sb, hsb⟩ : ∃ k, s.b = k := ⟨_, rfl⟩
  rw [hsx, hsy, hsb] at hdone ⊢
  rw [hsb] at hfail hsl
  obtain ⟨t0, ht0⟩ : ∃ t, txt sb = t := ⟨_, rfl⟩
  rw [ht0] at hdone ⊢
  obtain ⟨n, hn⟩ : ∃ n, cw * ch = n := ⟨_, rfl⟩
  have hn2 : n ≤ 1920 := by rw [← hn]; exact wh_small w2 h2
  rw [hn] at hdone hsl
  have hcv := conv_any t0
  rw [show t0.size = n by rw [← ht0, txt_size]; exact hsl] at hcv
  have HFAIL := Lib.hid hfail; have HDONE := Lib.hid hdone; have HD3 := Lib.hid hd3l; have HQ := Lib.hid hq; have HT0 := Lib.hid ht0; have HSL := Lib.hid hsl; have HN := Lib.hid hn; have HSZ := Lib.hid hsz
  clear hfail hdone hd3l hq ht0 hsl hn hR hdo hl hcw hch hsx hsy hsb hs hsz
  go_enter Try.func28, Try.ntmps28
  go_wp2_with fail
  refine (CUT.out _).mono ?_
  rintro e wa ⟨rfl, hb⟩
  have HB : Below w.heap.size w wa := Below.thn (by (repeat (first | (with_reducible assumption) | (with_reducible exact Below.refl _ _) | with_reducible apply bl_drewN | with_reducible apply Below.drew | (with_reducible apply bl_alloc; focus (first | (simp; done) | (simp; omega) | omega)) | (with_reducible apply bl_set; focus (first | (simp; done) | (simp; omega) | omega))))) hb
  have B1 := Blk.below (b := w.heap.size) (t := 24) (by (repeat (first | (with_reducible assumption) | (with_reducible apply Blk.new'; (first | (with_reducible rfl) | (simp; done))) | with_reducible apply Blk.alloc | with_reducible apply Blk.set | ((with_reducible apply Blk.set_ne); focus (first | (simp; done) | (simp; omega))) | with_reducible apply Blk.drewN | with_reducible apply Blk.drew))) hb
  have B2 := Blk.below (b := w.heap.size + 1) (t := 24) (by (repeat (first | (with_reducible assumption) | (with_reducible apply Blk.new'; (first | (with_reducible rfl) | (simp; done))) | with_reducible apply Blk.alloc | with_reducible apply Blk.set | ((with_reducible apply Blk.set_ne); focus (first | (simp; done) | (simp; omega))) | with_reducible apply Blk.drewN | with_reducible apply Blk.drew))) hb
  have HBs := HB.size
  clear hb
  go_wp2_with fail
  refine (HAS.out _).mono ?_
  rintro e wb ⟨rfl, hb⟩
  have HB2 := Below.thn HB hb HBs
  have B12 := B1.below hb
  have B22 := B2.below hb
  have HB2s := HB2.size
  have B12c := B12.cell; have B12l := B12.lt
  clear hb HB HBs B1 B2
  go_wp2_with fail
  refine (size_any _ _ _ _ _ _).mono ?_
  rintro e wc ⟨rfl, hb⟩
  have HB3 := Below.thn HB2 hb HB2s
  have B13 := B12.below hb
  have B23 := B22.below hb
  have HB3s := HB3.size
  clear hb HB2 HB2s B12 B22 B12c B12l
  have B13c := B13.cell; have B13l := B13.lt
  go_wp2_with fail
  refine (cells_any _ _ _ _ _ _).mono ?_
  rintro e wd ⟨rfl, hb⟩
  have HB4 := Below.thn HB3 hb HB3s
  have B14 := B13.below hb
  have B24 := B23.below hb
  have HB4s := HB4.size
  clear hb HB3 HB3s B13 B23 B13c B13l
  have V0 : PAt w (Lib.bytesWorld wd 5 t0) w.heap.size (w.heap.size + 1) wd.heap.size cw ch sx sy t0 sb := by
    have hb := conv_below wd 5 t0
    have l1 := B14.lt; have l2 := B24.lt
    refine ⟨B14.below hb, B24.below hb, ?_, by omega, by omega, by omega, Below.thn HB4 hb, by omega, Nat.le_refl _, by omega⟩
    have := conv_row wd 5 t0
    rw [← HT0.out] at this ⊢
    simpa [txt] using this
  have hcap := grownCap_ge wd n 0 5
  go_upto_region 8 with fail
  generalize Lib.bytesWorld wd 5 t0 = W0 at *
  generalize grownCap wd n 0 5 = cap at *
  generalize wd.heap.size = G at *
  clear HB4 HB4s B14 B24 hcv
  obtain ⟨A, hA⟩ : ∃ A, w.heap.size = A := ⟨_, rfl⟩
  have hwA : w.heap.size ≤ A := by omega
  obtain ⟨R, hR⟩ : ∃ R, A + 1 = R := ⟨_, rfl⟩
  rw [hA, hR] at V0
  rw [hA, hR]
  clear hA hR
  go_wp2_with fail
  go_loopg [11] d.size (fun g t11 wr => ∃ (sr : ByteArray) (cells : List UInt8), t11 = .string sr ∧ sr.size ≤ g ∧ sr.size ≤ 10000 ∧ appD cw ch sb r = appD cw ch cells sr.data.toList ∧ cells.length = n ∧ PAt w wr A R G cw ch sx sy t0 cells)
  case atStart => exact ⟨d3, sb, rfl, by have : d3.data.toList.length = d3.size := rfl; rw [HD3.out] at this; have := HSZ.out; omega, by have : d3.data.toList.length = d3.size := rfl; rw [HD3.out] at this; have := HSZ.out; omega, by rw [HD3.out], HSL.out, V0⟩
  case round =>
    clear V0
    obtain ⟨sr, cells, rfl, hsg, hs10, happ, hcl, V⟩ := hrel
    have HAPP := Lib.hid happ
    have HCL := Lib.hid hcl
    have BRc := V.BR.cell; have BRf := V.BR.frozen; have BRl := V.BR.lt
    clear happ hcl
    by_cases hz : sr.size = 0
    · have hsr : sr = ⟨#[]⟩ := by
        apply ba_ext
        rw [List.eq_nil_of_length_eq_zero (show sr.data.toList.length = 0 from hz)]
      subst hsr
      have hap := HAPP.out
      rw [appD_nil] at hap
      have CK := Lib.hid (HDONE.out cells hap HCL.out)
      have hcvq : ∀ (W : World) (b : Nat), Blk W b #[.int .u8 cw, .int .u8 ch, .int .u8 x0.toNat, .int .u8 y0.toNat] 5 → (convert 34 9 (.slice (some ⟨b, 0, none⟩) 4 4)).run Try.prog W = .ok (.string q) W := fun W b B => by
        have hx8 := x0.toNat_lt; have hy8 := y0.toNat_lt
        have hrow := row_four (by omega) (by omega) (by omega) (by omega) B
        rw [UInt8.ofNat_toNat, UInt8.ofNat_toNat] at hrow
        rw [HQ.out]
        exact Lib.run_convert_whole (P := Try.prog) W 34 5 9 Try.underlying34 Try.underlying5 Try.underlying9 b 0 _ (row_bytes hrow) 4
      have hcvc : ∀ (W : World), BRow W G cells → (convert 34 9 (.slice (some ⟨G, 0, none⟩) n cap)).run Try.prog W = .ok (.string (txt cells)) W := fun W B => by
        have h5 := Lib.run_convert_whole (P := Try.prog) W 34 5 9 Try.underlying34 Try.underlying5 Try.underlying9 G 0 (txt cells) (row_bytes B) cap
        rw [txt_size, HCL.out] at h5
        exact h5
      have radd : ∀ W, (Op.stringOp .add q (txt cells)).run Try.prog W = .ok (.string (q ++ txt cells)) W := fun W => run_string_add_sum W _ _ (by rw [txt_size, HCL.out, HQ.out]; show 4 + _ ≤ _; omega)
      have HCVQ := Lib.hid hcvq; have HCVC := Lib.hid hcvc; have RADD := Lib.hid radd
      have BAx := V.BA
      clear hz hsg hap hcvq hcvc radd BRc BRf BRl hs10
      go_wp2_with fail
      refine wp_region_typed 18 (fun k => match k with | 11 => [10] | _ => []) (fun k => match k with  | _ => false) (fun k => match k with | 10 => some ⟨(Nat), (0), (fun b => .slice (some ⟨b, 0, none⟩) 4 4), (fun b w => Blk w b #[.int .u8 cw, .int .u8 ch, .int .u8 x0.toNat, .int .u8 y0.toNat] 5), (fun b w w' h hb => h.below hb)⟩ | 11 => some ⟨(Unit), (()), (fun _ => .string q), (fun _ _ => True), (fun _ _ _ h _ => h)⟩ | 13 => some ⟨(Unit), (()), (fun _ => .string (txt cells)), (fun _ _ => True), (fun _ _ _ h _ => h)⟩ | 14 => some ⟨(Unit), (()), (fun _ => .string (q ++ txt cells)), (fun _ _ => True), (fun _ _ _ h _ => h)⟩ | 15 => some ⟨(Unit), (()), (fun _ => .tuple #[VV ra rb rc rd rt, .int .i64 rz]), (fun _ _ => True), (fun _ _ _ h _ => h)⟩ | _ => none) (by kernel_rfl) (by kernel_rfl) (by intro d0 v0 c0 a0 w0 h0; cases d0 <;> exact h0) ?_
      rw [show List.range 18 = [0, 1, 2, 3, 4, 5, 6, 7, 8, 9, 10, 11, 12, 13, 14, 15, 16, 17] from rfl]
      first
        | (refine ty_skip rfl rfl ?_; (try simp only [Act.put, List.setIfInBounds_toArray, List.set_cons_zero, List.set_cons_succ]))
        | (refine ty_pure rfl rfl rfl rfl ?_; apply Exists.intro; refine ⟨fun wq hq hk => ?_, ?_⟩
           · have f0 := hq.blk BAx; simp only [pureAt]; go_simp; (try simp only [↓IntWalk.iteOmega]); (try go_bits); (try simp only [pureUpon]); (first | done | exact ⟨rfl, rfl⟩ | exact ⟨trivial, rfl⟩ | rfl)
           (try simp only [Act.put, List.setIfInBounds_toArray, List.set_cons_zero, List.set_cons_succ]))
      first
        | (refine ty_skip rfl rfl ?_; (try simp only [Act.put, List.setIfInBounds_toArray, List.set_cons_zero, List.set_cons_succ]))
        | (refine ty_pure rfl rfl rfl rfl ?_; apply Exists.intro; refine ⟨fun wq hq hk => ?_, ?_⟩
           · have f0 := hq.blk BAx; simp only [pureAt]; go_simp; (try simp only [↓IntWalk.iteOmega]); (try go_bits); (try simp only [pureUpon]); (first | done | exact ⟨rfl, rfl⟩ | exact ⟨trivial, rfl⟩ | rfl)
           (try simp only [Act.put, List.setIfInBounds_toArray, List.set_cons_zero, List.set_cons_succ]))
      first
        | (refine ty_skip rfl rfl ?_; (try simp only [Act.put, List.setIfInBounds_toArray, List.set_cons_zero, List.set_cons_succ]))
        | (refine ty_pure rfl rfl rfl rfl ?_; apply Exists.intro; refine ⟨fun wq hq hk => ?_, ?_⟩
           · have f0 := hq.blk BAx; simp only [pureAt]; go_simp; (try simp only [↓IntWalk.iteOmega]); (try go_bits); (try simp only [pureUpon]); (first | done | exact ⟨rfl, rfl⟩ | exact ⟨trivial, rfl⟩ | rfl)
           (try simp only [Act.put, List.setIfInBounds_toArray, List.set_cons_zero, List.set_cons_succ]))
      first
        | (refine ty_skip rfl rfl ?_; (try simp only [Act.put, List.setIfInBounds_toArray, List.set_cons_zero, List.set_cons_succ]))
        | (refine ty_pure rfl rfl rfl rfl ?_; apply Exists.intro; refine ⟨fun wq hq hk => ?_, ?_⟩
           · have f0 := hq.blk BAx; simp only [pureAt]; go_simp; (try simp only [↓IntWalk.iteOmega]); (try go_bits); (try simp only [pureUpon]); (first | done | exact ⟨rfl, rfl⟩ | exact ⟨trivial, rfl⟩ | rfl)
           (try simp only [Act.put, List.setIfInBounds_toArray, List.set_cons_zero, List.set_cons_succ]))
      first
        | (refine ty_skip rfl rfl ?_; (try simp only [Act.put, List.setIfInBounds_toArray, List.set_cons_zero, List.set_cons_succ]))
        | (refine ty_pure rfl rfl rfl rfl ?_; apply Exists.intro; refine ⟨fun wq hq hk => ?_, ?_⟩
           · have f0 := hq.blk BAx; simp only [pureAt]; go_simp; (try simp only [↓IntWalk.iteOmega]); (try go_bits); (try simp only [pureUpon]); (first | done | exact ⟨rfl, rfl⟩ | exact ⟨trivial, rfl⟩ | rfl)
           (try simp only [Act.put, List.setIfInBounds_toArray, List.set_cons_zero, List.set_cons_succ]))
      first
        | (refine ty_skip rfl rfl ?_; (try simp only [Act.put, List.setIfInBounds_toArray, List.set_cons_zero, List.set_cons_succ]))
        | (refine ty_pure rfl rfl rfl rfl ?_; apply Exists.intro; refine ⟨fun wq hq hk => ?_, ?_⟩
           · have f0 := hq.blk BAx; simp only [pureAt]; go_simp; (try simp only [↓IntWalk.iteOmega]); (try go_bits); (try simp only [pureUpon]); (first | done | exact ⟨rfl, rfl⟩ | exact ⟨trivial, rfl⟩ | rfl)
           (try simp only [Act.put, List.setIfInBounds_toArray, List.set_cons_zero, List.set_cons_succ]))
      first
        | (refine ty_skip rfl rfl ?_; (try simp only [Act.put, List.setIfInBounds_toArray, List.set_cons_zero, List.set_cons_succ]))
        | (refine ty_pure rfl rfl rfl rfl ?_; apply Exists.intro; refine ⟨fun wq hq hk => ?_, ?_⟩
           · have f0 := hq.blk BAx; simp only [pureAt]; go_simp; (try simp only [↓IntWalk.iteOmega]); (try go_bits); (try simp only [pureUpon]); (first | done | exact ⟨rfl, rfl⟩ | exact ⟨trivial, rfl⟩ | rfl)
           (try simp only [Act.put, List.setIfInBounds_toArray, List.set_cons_zero, List.set_cons_succ]))
      first
        | (refine ty_skip rfl rfl ?_; (try simp only [Act.put, List.setIfInBounds_toArray, List.set_cons_zero, List.set_cons_succ]))
        | (refine ty_pure rfl rfl rfl rfl ?_; apply Exists.intro; refine ⟨fun wq hq hk => ?_, ?_⟩
           · have f0 := hq.blk BAx; simp only [pureAt]; go_simp; (try simp only [↓IntWalk.iteOmega]); (try go_bits); (try simp only [pureUpon]); (first | done | exact ⟨rfl, rfl⟩ | exact ⟨trivial, rfl⟩ | rfl)
           (try simp only [Act.put, List.setIfInBounds_toArray, List.set_cons_zero, List.set_cons_succ]))
      first
        | (refine ty_skip rfl rfl ?_; (try simp only [Act.put, List.setIfInBounds_toArray, List.set_cons_zero, List.set_cons_succ]))
        | (refine ty_pure rfl rfl rfl rfl ?_; apply Exists.intro; refine ⟨fun wq hq hk => ?_, ?_⟩
           · have f0 := hq.blk BAx; simp only [pureAt]; go_simp; (try simp only [↓IntWalk.iteOmega]); (try go_bits); (try simp only [pureUpon]); (first | done | exact ⟨rfl, rfl⟩ | exact ⟨trivial, rfl⟩ | rfl)
           (try simp only [Act.put, List.setIfInBounds_toArray, List.set_cons_zero, List.set_cons_succ]))
      first
        | (refine ty_skip rfl rfl ?_; (try simp only [Act.put, List.setIfInBounds_toArray, List.set_cons_zero, List.set_cons_succ]))
        | (refine ty_pure rfl rfl rfl rfl ?_; apply Exists.intro; refine ⟨fun wq hq hk => ?_, ?_⟩
           · have f0 := hq.blk BAx; simp only [pureAt]; go_simp; (try simp only [↓IntWalk.iteOmega]); (try go_bits); (try simp only [pureUpon]); (first | done | exact ⟨rfl, rfl⟩ | exact ⟨trivial, rfl⟩ | rfl)
           (try simp only [Act.put, List.setIfInBounds_toArray, List.set_cons_zero, List.set_cons_succ]))
      refine ty_rel rfl rfl _ rfl rfl (fun wq hq hk => ?_) ?_
      · have f0 := hq.blk BAx; simp only [relAt]; go_simp; (try simp only [relUpon]); exact .mk ((Below.refl _ _).alloc (Nat.le_refl _) _) wq.heap.size rfl (Blk.new wq _ _)
      rintro (b10 : Nat)
      (try simp only [Act.put, List.setIfInBounds_toArray, List.set_cons_zero, List.set_cons_succ])
      refine ty_rel rfl rfl _ rfl rfl (fun wq hq hk => ?_) ?_
      · have f0 := hq.blk BAx; have hr := hk _ (.head _) rfl; have hc5 := HCVQ.out wq _ hr; simp only [relAt]; go_simp; (try simp only [relUpon]); exact .mk (Below.refl _ _) () rfl trivial
      rintro ⟨⟩
      (try simp only [Act.put, List.setIfInBounds_toArray, List.set_cons_zero, List.set_cons_succ])
      first
        | (refine ty_skip rfl rfl ?_; (try simp only [Act.put, List.setIfInBounds_toArray, List.set_cons_zero, List.set_cons_succ]))
        | (refine ty_pure rfl rfl rfl rfl ?_; apply Exists.intro; refine ⟨fun wq hq hk => ?_, ?_⟩
           · have f0 := hq.blk BAx; simp only [pureAt]; go_simp; (try simp only [↓IntWalk.iteOmega]); (try go_bits); (try simp only [pureUpon]); (first | done | exact ⟨rfl, rfl⟩ | exact ⟨trivial, rfl⟩ | rfl)
           (try simp only [Act.put, List.setIfInBounds_toArray, List.set_cons_zero, List.set_cons_succ]))
      refine ty_rel rfl rfl _ rfl rfl (fun wq hq hk => ?_) ?_
      · have f0 := hq.blk BAx; have hc5 := HCVC.out wq (V.row.below hq.out); simp only [relAt]; go_simp; (try simp only [relUpon]); exact .mk (Below.refl _ _) () rfl trivial
      rintro ⟨⟩
      (try simp only [Act.put, List.setIfInBounds_toArray, List.set_cons_zero, List.set_cons_succ])
      refine ty_rel rfl rfl _ rfl rfl (fun wq hq hk => ?_) ?_
      · have f0 := hq.blk BAx; have ra5 := RADD.out wq; simp only [relAt]; go_simp; (try simp only [relUpon]); exact .mk (Below.refl _ _) () rfl trivial
      rintro ⟨⟩
      (try simp only [Act.put, List.setIfInBounds_toArray, List.set_cons_zero, List.set_cons_succ])
      refine ty_rel rfl rfl _ rfl rfl (fun wq hq hk => ?_) ?_
      · have f0 := hq.blk BAx; simp only [relAt]; go_simp; (try simp only [relUpon]); (go_at_call 45; refine (CK.out _).mono ?_; rintro e w9 ⟨rfl, hb9⟩; exact ⟨_, rfl, .mk hb9 () rfl trivial⟩)
      rintro ⟨⟩
      (try simp only [Act.put, List.setIfInBounds_toArray, List.set_cons_zero, List.set_cons_succ])
      first
        | (refine ty_skip rfl rfl ?_; (try simp only [Act.put, List.setIfInBounds_toArray, List.set_cons_zero, List.set_cons_succ]))
        | (refine ty_pure rfl rfl rfl rfl ?_; apply Exists.intro; refine ⟨fun wq hq hk => ?_, ?_⟩
           · have f0 := hq.blk BAx; simp only [pureAt]; go_simp; (try simp only [↓IntWalk.iteOmega]); (try go_bits); (try simp only [pureUpon]); (first | done | exact ⟨rfl, rfl⟩ | exact ⟨trivial, rfl⟩ | rfl)
           (try simp only [Act.put, List.setIfInBounds_toArray, List.set_cons_zero, List.set_cons_succ]))
      first
        | (refine ty_skip rfl rfl ?_; (try simp only [Act.put, List.setIfInBounds_toArray, List.set_cons_zero, List.set_cons_succ]))
        | (refine ty_pure rfl rfl rfl rfl ?_; apply Exists.intro; refine ⟨fun wq hq hk => ?_, ?_⟩
           · have f0 := hq.blk BAx; simp only [pureAt]; go_simp; (try simp only [↓IntWalk.iteOmega]); (try go_bits); (try simp only [pureUpon]); (first | done | exact ⟨rfl, rfl⟩ | exact ⟨trivial, rfl⟩ | rfl)
           (try simp only [Act.put, List.setIfInBounds_toArray, List.set_cons_zero, List.set_cons_succ]))
      refine ty_nil ?_
      simp only [List.drop_succ_cons, List.drop_zero]
      intro W8 hw8 hΓ
      have V8 := V.below hw8.out
      clear hΓ hw8 V BAx
      refine wpList_put rfl 24 _ _ rfl R _ _ 24 rfl rfl V8.BR (by kernel_rfl) rfl (by first | rfl | decide | simp [Value.oneCell']) (fun W9 hp9 B9 => ?_)
      (try simp only [Act.put])
      have HB9 := hp9.below V8.R0 V8.HB
      have B9c := B9.cell; have B9l := B9.lt
      clear V8 hp9
      go_wp2_with fail
      refine bodyPost_ret (v := .tuple #[VV ra rb rc rd rt, .int .i64 rz]) ?_ rfl ⟨rfl, ?_⟩
      · first | (simp [results, Try.results28, go_sem, B9c]; done) | simp [results, Try.results28, go_sem, B9c, B9l]
      · repeat (first | (with_reducible assumption) | (with_reducible exact Below.refl _ _) | with_reducible apply bl_drewN | with_reducible apply Below.drew | (with_reducible apply bl_alloc; focus (first | (simp; done) | (simp; omega) | omega)) | (with_reducible apply bl_set; focus (first | (simp; done) | (simp; omega) | omega)))
    · have hne : sr.toList.isEmpty = false := by
        rw [ba_toList, List.isEmpty_eq_false_iff]
        intro h
        exact hz (by show sr.data.toList.length = 0; rw [h]; rfl)
      by_cases h3 : sr.size < 3
      · have h3' : (sr.size : Int) < 3 := by omega
        have HNO : appD cw ch sb r = none := by
          rw [HAPP.out]
          have hlen : sr.data.toList.length = sr.size := rfl
          match hm : sr.data.toList, hlen with
          | [], hl => simp at hl; omega
          | [_], _ => exact appD_one _ _ _ _
          | [_, _], _ => exact appD_two _ _ _ _ _
          | _ :: _ :: _ :: _, hl => simp at hl; omega
        have HNV := Lib.hid (HFAIL.out HNO)
        clear HNO hz hsg
        go_wp2_with fail
        refine bodyPost_ret (v := .tuple #[VV 0 0 0 0 ⟨#[]⟩, .int .i64 4]) ?_ rfl ⟨congrArg _ HNV.out, ?_⟩
        · first | (simp [results, Try.results28, go_sem, BRc]; done) | simp [results, Try.results28, go_sem, BRc, BRl]
        · have HBV := V.HB; have hA0 := V.A0; have hR0 := V.R0
          repeat (first | (with_reducible assumption) | (with_reducible exact Below.refl _ _) | with_reducible apply bl_drewN | with_reducible apply Below.drew | (with_reducible apply bl_alloc; focus (first | (simp; done) | (simp; omega) | omega)) | (with_reducible apply bl_set; focus (first | (simp; done) | (simp; omega) | omega)))
      · have h3' : ¬ (sr.size : Int) < 3 := by omega
        have j0 : 0 < sr.size := by omega
        have j1 : 1 < sr.size := by omega
        have j2 : 2 < sr.size := by omega
        have J0 : (0 : Int) < sr.size := by omega
        have J1 : (1 : Int) < sr.size := by omega
        have J2 : (2 : Int) < sr.size := by omega
        obtain ⟨u0, hu0⟩ : ∃ c, sr[0] = c := ⟨_, rfl⟩
        obtain ⟨u1, hu1⟩ : ∃ c, sr[1] = c := ⟨_, rfl⟩
        obtain ⟨u2, hu2⟩ : ∃ c, sr[2] = c := ⟨_, rfl⟩
        obtain ⟨sl, hsl⟩ : ∃ l, sr.data.toList.drop 3 = l := ⟨_, rfl⟩
        have hsrl : sr.data.toList = u0 :: u1 :: u2 :: sl := by
          have e0 := ba_getD sr 0 j0; have e1 := ba_getD sr 1 j1; have e2 := ba_getD sr 2 j2
          rw [hu0] at e0; rw [hu1] at e1; rw [hu2] at e2
          have hlen : sr.data.toList.length = sr.size := rfl
          rw [← hsl]
          match hm : sr.data.toList, hlen with
          | [], hl => simp at hl; omega
          | [_], hl => simp at hl; omega
          | [_, _], hl => simp at hl; omega
          | a :: b :: c :: r, _ =>
            rw [hm] at e0 e1 e2
            simp at e0 e1 e2
            simp [e0, e1, e2]
        have hsll : sl.length + 3 = sr.size := by
          show _ = sr.data.toList.length
          rw [hsrl]; simp
        have hap := HAPP.out
        rw [hsrl, appD_cons] at hap
        have HAP := Lib.hid hap
        have HSRL := Lib.hid hsrl
        obtain ⟨y, hy⟩ : ∃ k, u0.toNat = k := ⟨_, rfl⟩
        obtain ⟨x, hx⟩ : ∃ k, u1.toNat = k := ⟨_, rfl⟩
        obtain ⟨m, hm⟩ : ∃ k, u2.toNat = k := ⟨_, rfl⟩
        have y255 : y ≤ 255 := by have := u0.toNat_lt; omega
        have x255 : x ≤ 255 := by have := u1.toNat_lt; omega
        have m255 : m ≤ 255 := by have := u2.toNat_lt; omega
        rw [hy, hx, hm] at HAP
        have HSLL := Lib.hid hsll
        have HSL2 := Lib.hid hsl
        clear hz hap hsrl hsll hsl
        go_wp2_with fail
        have HBV := V.HB
        have hBs := HBV.size
        refine wp_region_typed 9 (fun k => match k with  | _ => []) (fun k => match k with | 3 => true | 4 => true | 5 => true | 6 => true | 7 => true | 8 => true | _ => false) (fun k => match k with  | _ => none) (by kernel_rfl) (by kernel_rfl) (by intro d0 v0 c0 a0 w0 h0; cases d0 <;> exact h0) ?_
        rw [show List.range 9 = [0, 1, 2, 3, 4, 5, 6, 7, 8] from rfl]
        first
          | (refine ty_skip rfl rfl ?_; (try simp only [Act.put, List.setIfInBounds_toArray, List.set_cons_zero, List.set_cons_succ]))
          | (refine ty_pure rfl rfl rfl rfl ?_; apply Exists.intro; refine ⟨fun wq hq hk => ?_, ?_⟩
             · simp only [pureAt]; go_simp; (try simp only [↓IntWalk.iteOmega]); (try go_bits); (try simp only [pureUpon]); (first | done | exact ⟨rfl, rfl⟩ | exact ⟨trivial, rfl⟩ | rfl)
             (try simp only [Act.put, List.setIfInBounds_toArray, List.set_cons_zero, List.set_cons_succ]))
        first
          | (refine ty_skip rfl rfl ?_; (try simp only [Act.put, List.setIfInBounds_toArray, List.set_cons_zero, List.set_cons_succ]))
          | (refine ty_pure rfl rfl rfl rfl ?_; apply Exists.intro; refine ⟨fun wq hq hk => ?_, ?_⟩
             · simp only [pureAt]; go_simp; (try simp only [↓IntWalk.iteOmega]); (try go_bits); (try simp only [pureUpon]); (first | done | exact ⟨rfl, rfl⟩ | exact ⟨trivial, rfl⟩ | rfl)
             (try simp only [Act.put, List.setIfInBounds_toArray, List.set_cons_zero, List.set_cons_succ]))
        first
          | (refine ty_skip rfl rfl ?_; (try simp only [Act.put, List.setIfInBounds_toArray, List.set_cons_zero, List.set_cons_succ]))
          | (refine ty_pure rfl rfl rfl rfl ?_; apply Exists.intro; refine ⟨fun wq hq hk => ?_, ?_⟩
             · simp only [pureAt]; go_simp; (try simp only [↓IntWalk.iteOmega]); (try go_bits); (try simp only [pureUpon]); (first | done | exact ⟨rfl, rfl⟩ | exact ⟨trivial, rfl⟩ | rfl)
             (try simp only [Act.put, List.setIfInBounds_toArray, List.set_cons_zero, List.set_cons_succ]))
        first
          | (refine ty_skip rfl rfl ?_; (try simp only [Act.put, List.setIfInBounds_toArray, List.set_cons_zero, List.set_cons_succ]))
          | (refine ty_late rfl rfl rfl ?_; apply Exists.intro; refine ⟨fun wq => ?_, ?_⟩
             · simp only [pureAt]; go_simp; (try simp only [↓IntWalk.iteOmega]); (try go_bits); (try simp only [pureUpon]); (first | done | exact ⟨rfl, rfl⟩ | exact ⟨trivial, rfl⟩ | rfl)
             (try simp only [Act.put, List.setIfInBounds_toArray, List.set_cons_zero, List.set_cons_succ]))
        first
          | (refine ty_skip rfl rfl ?_; (try simp only [Act.put, List.setIfInBounds_toArray, List.set_cons_zero, List.set_cons_succ]))
          | (refine ty_late rfl rfl rfl ?_; apply Exists.intro; refine ⟨fun wq => ?_, ?_⟩
             · simp only [pureAt]; go_simp; (try simp only [↓IntWalk.iteOmega]); (try go_bits); (try simp only [pureUpon]); (first | done | exact ⟨rfl, rfl⟩ | exact ⟨trivial, rfl⟩ | rfl)
             (try simp only [Act.put, List.setIfInBounds_toArray, List.set_cons_zero, List.set_cons_succ]))
        first
          | (refine ty_skip rfl rfl ?_; (try simp only [Act.put, List.setIfInBounds_toArray, List.set_cons_zero, List.set_cons_succ]))
          | (refine ty_late rfl rfl rfl ?_; apply Exists.intro; refine ⟨fun wq => ?_, ?_⟩
             · simp only [pureAt]; go_simp; (try simp only [↓IntWalk.iteOmega]); (try go_bits); (try simp only [pureUpon]); (first | done | exact ⟨rfl, rfl⟩ | exact ⟨trivial, rfl⟩ | rfl)
             (try simp only [Act.put, List.setIfInBounds_toArray, List.set_cons_zero, List.set_cons_succ]))
        first
          | (refine ty_skip rfl rfl ?_; (try simp only [Act.put, List.setIfInBounds_toArray, List.set_cons_zero, List.set_cons_succ]))
          | (refine ty_late rfl rfl rfl ?_; apply Exists.intro; refine ⟨fun wq => ?_, ?_⟩
             · simp only [pureAt]; go_simp; (try simp only [↓IntWalk.iteOmega]); (try go_bits); (try simp only [pureUpon]); (first | done | exact ⟨rfl, rfl⟩ | exact ⟨trivial, rfl⟩ | rfl)
             (try simp only [Act.put, List.setIfInBounds_toArray, List.set_cons_zero, List.set_cons_succ]))
        first
          | (refine ty_skip rfl rfl ?_; (try simp only [Act.put, List.setIfInBounds_toArray, List.set_cons_zero, List.set_cons_succ]))
          | (refine ty_late rfl rfl rfl ?_; apply Exists.intro; refine ⟨fun wq => ?_, ?_⟩
             · simp only [pureAt]; go_simp; (try simp only [↓IntWalk.iteOmega]); (try go_bits); (try simp only [pureUpon]); (first | done | exact ⟨rfl, rfl⟩ | exact ⟨trivial, rfl⟩ | rfl)
             (try simp only [Act.put, List.setIfInBounds_toArray, List.set_cons_zero, List.set_cons_succ]))
        first
          | (refine ty_skip rfl rfl ?_; (try simp only [Act.put, List.setIfInBounds_toArray, List.set_cons_zero, List.set_cons_succ]))
          | (refine ty_late rfl rfl rfl ?_; apply Exists.intro; refine ⟨fun wq => ?_, ?_⟩
             · simp only [pureAt]; go_simp; (try simp only [↓IntWalk.iteOmega]); (try go_bits); (try simp only [pureUpon]); (first | done | exact ⟨rfl, rfl⟩ | exact ⟨trivial, rfl⟩ | rfl)
             (try simp only [Act.put, List.setIfInBounds_toArray, List.set_cons_zero, List.set_cons_succ]))
        refine ty_nil ?_
        simp only [List.drop_succ_cons, List.drop_zero]
        intro W8 hw8 hΓ
        have V8 := V.below hw8.out
        clear hΓ hw8 V BRc BRf BRl HBV hBs
        have BRc := V8.BR.cell; have BRf := V8.BR.frozen; have BRl := V8.BR.lt
        have V := V8
        clear V8
        by_cases c1 : (ch : Int) ≤ y
        · have HNV := Lib.hid (HFAIL.out (by rw [HAP.out]; exact if_neg (fun h => by have := HSLL.out; omega)))
          go_wp2_with fail
          refine bodyPost_ret (v := .tuple #[VV 0 0 0 0 ⟨#[]⟩, .int .i64 4]) ?_ rfl ⟨congrArg _ HNV.out, ?_⟩
          · first | (simp [results, Try.results28, go_sem, BRc]; done) | simp [results, Try.results28, go_sem, BRc, BRl]
          · have HBV := V.HB; have hA0 := V.A0; have hR0 := V.R0
            repeat (first | (with_reducible assumption) | (with_reducible exact Below.refl _ _) | with_reducible apply bl_drewN | with_reducible apply Below.drew | (with_reducible apply bl_alloc; focus (first | (simp; done) | (simp; omega) | omega)) | (with_reducible apply bl_set; focus (first | (simp; done) | (simp; omega) | omega)))
        by_cases c2 : (cw : Int) < (x : Int) + m
        · have HNV := Lib.hid (HFAIL.out (by rw [HAP.out]; exact if_neg (fun h => by have := HSLL.out; omega)))
          go_wp2_with fail
          refine bodyPost_ret (v := .tuple #[VV 0 0 0 0 ⟨#[]⟩, .int .i64 4]) ?_ rfl ⟨congrArg _ HNV.out, ?_⟩
          · first | (simp [results, Try.results28, go_sem, BRc]; done) | simp [results, Try.results28, go_sem, BRc, BRl]
          · have HBV := V.HB; have hA0 := V.A0; have hR0 := V.R0
            repeat (first | (with_reducible assumption) | (with_reducible exact Below.refl _ _) | with_reducible apply bl_drewN | with_reducible apply Below.drew | (with_reducible apply bl_alloc; focus (first | (simp; done) | (simp; omega) | omega)) | (with_reducible apply bl_set; focus (first | (simp; done) | (simp; omega) | omega)))
        by_cases c3 : (sr.size : Int) < 3 + (m : Int)
        · have HNV := Lib.hid (HFAIL.out (by rw [HAP.out]; exact if_neg (fun h => by have := HSLL.out; omega)))
          go_wp2_with fail
          refine bodyPost_ret (v := .tuple #[VV 0 0 0 0 ⟨#[]⟩, .int .i64 4]) ?_ rfl ⟨congrArg _ HNV.out, ?_⟩
          · first | (simp [results, Try.results28, go_sem, BRc]; done) | simp [results, Try.results28, go_sem, BRc, BRl]
          · have HBV := V.HB; have hA0 := V.A0; have hR0 := V.R0
            repeat (first | (with_reducible assumption) | (with_reducible exact Below.refl _ _) | with_reducible apply bl_drewN | with_reducible apply Below.drew | (with_reducible apply bl_alloc; focus (first | (simp; done) | (simp; omega) | omega)) | (with_reducible apply bl_set; focus (first | (simp; done) | (simp; omega) | omega)))
        have hap := HAP.out
        rw [if_pos ⟨by omega, by omega, by have := HSLL.out; omega⟩] at hap
        obtain ⟨p, hp⟩ : ∃ p, y * cw = p := ⟨_, rfl⟩
        obtain ⟨o, ho⟩ : ∃ o, p + x = o := ⟨_, rfl⟩
        obtain ⟨e, he⟩ : ∃ e, 3 + m = e := ⟨_, rfl⟩
        rw [hp, ho] at hap
        have hend : y * cw + cw ≤ n := by rw [← HN.out]; exact row_end (by omega)
        rw [hp] at hend
        have hmul : (y : Int) * (cw : Int) = (p : Int) := by rw [← hp]; simp
        have hsum : (p : Int) + (x : Int) = (o : Int) := by omega
        have hsum3 : (3 : Int) + (m : Int) = (e : Int) := by omega
        have hon : (o : Int) ≤ n := by omega
        have hncap : (n : Int) ≤ cap := by omega
        have he3 : (3 : Int) ≤ e := by omega
        have hes : (e : Int) ≤ sr.size := by omega
        obtain ⟨sc, hsc⟩ : ∃ t, sr.extract 3 e = t := ⟨_, rfl⟩
        obtain ⟨sn, hsn⟩ : ∃ t, sr.extract e sr.size = t := ⟨_, rfl⟩
        have hscl : sc.data.toList = sl.take m := by
          rw [← hsc, ba_extract, HSL2.out]; congr 1; omega
        have hsnl : sn.data.toList = sl.drop m := by
          rw [← hsn, ba_extract, List.take_of_length_le (by rw [List.length_drop]; exact Nat.le_refl _), ← HSL2.out, List.drop_drop]; congr 1; omega
        have hscs : sc.size = m := by rw [← hsc, ByteArray.size_extract]; omega
        have hsns : sn.size = sr.size - e := by rw [← hsn, ByteArray.size_extract]; omega
        have hscll : (sl.take m).length = m := by rw [← hscl]; exact hscs
        rw [← hsnl, ← hscl] at hap
        have HAP2 := Lib.hid hap
        have HSC := Lib.hid hscs; have HSN := Lib.hid hsns
        have HONM : o + m ≤ n := by omega
        have HEM := Lib.hid he
        clear hp ho he hend hap hscl hsnl hscs hsns hscll HAP
        go_wp2_with fail
        have HBV := V.HB
        have hBs := HBV.size
        refine wp_region_typed 11 (fun k => match k with  | _ => []) (fun k => match k with  | _ => false) (fun k => match k with  | _ => none) (by kernel_rfl) (by kernel_rfl) (by intro d0 v0 c0 a0 w0 h0; cases d0 <;> exact h0) ?_
        rw [show List.range 11 = [0, 1, 2, 3, 4, 5, 6, 7, 8, 9, 10] from rfl]
        first
          | (refine ty_skip rfl rfl ?_; (try simp only [Act.put, List.setIfInBounds_toArray, List.set_cons_zero, List.set_cons_succ]))
          | (refine ty_pure rfl rfl rfl rfl ?_; apply Exists.intro; refine ⟨fun wq hq hk => ?_, ?_⟩
             · simp only [pureAt]; go_simp; (try simp only [↓IntWalk.iteOmega]); (try go_bits); (try simp only [pureUpon]); (first | done | exact ⟨rfl, rfl⟩ | exact ⟨trivial, rfl⟩ | rfl)
             (try simp only [Act.put, List.setIfInBounds_toArray, List.set_cons_zero, List.set_cons_succ]))
        first
          | (refine ty_skip rfl rfl ?_; (try simp only [Act.put, List.setIfInBounds_toArray, List.set_cons_zero, List.set_cons_succ]))
          | (refine ty_pure rfl rfl rfl rfl ?_; apply Exists.intro; refine ⟨fun wq hq hk => ?_, ?_⟩
             · simp only [pureAt]; go_simp; (try simp only [↓IntWalk.iteOmega]); (try go_bits); (try simp only [pureUpon]); (first | done | exact ⟨rfl, rfl⟩ | exact ⟨trivial, rfl⟩ | rfl)
             (try simp only [Act.put, List.setIfInBounds_toArray, List.set_cons_zero, List.set_cons_succ]))
        first
          | (refine ty_skip rfl rfl ?_; (try simp only [Act.put, List.setIfInBounds_toArray, List.set_cons_zero, List.set_cons_succ]))
          | (refine ty_pure rfl rfl rfl rfl ?_; apply Exists.intro; refine ⟨fun wq hq hk => ?_, ?_⟩
             · simp only [pureAt]; go_simp; (try simp only [↓IntWalk.iteOmega]); (try go_bits); (try simp only [pureUpon]); (first | done | exact ⟨rfl, rfl⟩ | exact ⟨trivial, rfl⟩ | rfl)
             (try simp only [Act.put, List.setIfInBounds_toArray, List.set_cons_zero, List.set_cons_succ]))
        first
          | (refine ty_skip rfl rfl ?_; (try simp only [Act.put, List.setIfInBounds_toArray, List.set_cons_zero, List.set_cons_succ]))
          | (refine ty_pure rfl rfl rfl rfl ?_; apply Exists.intro; refine ⟨fun wq hq hk => ?_, ?_⟩
             · simp only [pureAt]; go_simp; (try simp only [↓IntWalk.iteOmega]); (try go_bits); (try simp only [pureUpon]); (first | done | exact ⟨rfl, rfl⟩ | exact ⟨trivial, rfl⟩ | rfl)
             (try simp only [Act.put, List.setIfInBounds_toArray, List.set_cons_zero, List.set_cons_succ]))
        first
          | (refine ty_skip rfl rfl ?_; (try simp only [Act.put, List.setIfInBounds_toArray, List.set_cons_zero, List.set_cons_succ]))
          | (refine ty_pure rfl rfl rfl rfl ?_; apply Exists.intro; refine ⟨fun wq hq hk => ?_, ?_⟩
             · simp only [pureAt]; go_simp; (try simp only [↓IntWalk.iteOmega]); (try go_bits); (try simp only [pureUpon]); (first | done | exact ⟨rfl, rfl⟩ | exact ⟨trivial, rfl⟩ | rfl)
             (try simp only [Act.put, List.setIfInBounds_toArray, List.set_cons_zero, List.set_cons_succ]))
        first
          | (refine ty_skip rfl rfl ?_; (try simp only [Act.put, List.setIfInBounds_toArray, List.set_cons_zero, List.set_cons_succ]))
          | (refine ty_pure rfl rfl rfl rfl ?_; apply Exists.intro; refine ⟨fun wq hq hk => ?_, ?_⟩
             · simp only [pureAt]; go_simp; (try simp only [↓IntWalk.iteOmega]); (try go_bits); (try simp only [pureUpon]); (first | done | exact ⟨rfl, rfl⟩ | exact ⟨trivial, rfl⟩ | rfl)
             (try simp only [Act.put, List.setIfInBounds_toArray, List.set_cons_zero, List.set_cons_succ]))
        first
          | (refine ty_skip rfl rfl ?_; (try simp only [Act.put, List.setIfInBounds_toArray, List.set_cons_zero, List.set_cons_succ]))
          | (refine ty_pure rfl rfl rfl rfl ?_; apply Exists.intro; refine ⟨fun wq hq hk => ?_, ?_⟩
             · simp only [pureAt]; go_simp; (try simp only [↓IntWalk.iteOmega]); (try go_bits); (try simp only [pureUpon]); (first | done | exact ⟨rfl, rfl⟩ | exact ⟨trivial, rfl⟩ | rfl)
             (try simp only [Act.put, List.setIfInBounds_toArray, List.set_cons_zero, List.set_cons_succ]))
        first
          | (refine ty_skip rfl rfl ?_; (try simp only [Act.put, List.setIfInBounds_toArray, List.set_cons_zero, List.set_cons_succ]))
          | (refine ty_pure rfl rfl rfl rfl ?_; apply Exists.intro; refine ⟨fun wq hq hk => ?_, ?_⟩
             · simp only [pureAt]; go_simp; (try simp only [↓IntWalk.iteOmega]); (try go_bits); (try simp only [pureUpon]); (first | done | exact ⟨rfl, rfl⟩ | exact ⟨trivial, rfl⟩ | rfl)
             (try simp only [Act.put, List.setIfInBounds_toArray, List.set_cons_zero, List.set_cons_succ]))
        first
          | (refine ty_skip rfl rfl ?_; (try simp only [Act.put, List.setIfInBounds_toArray, List.set_cons_zero, List.set_cons_succ]))
          | (refine ty_pure rfl rfl rfl rfl ?_; apply Exists.intro; refine ⟨fun wq hq hk => ?_, ?_⟩
             · simp only [pureAt]; go_simp; (try simp only [↓IntWalk.iteOmega]); (try go_bits); (try simp only [pureUpon]); (first | done | exact ⟨rfl, rfl⟩ | exact ⟨trivial, rfl⟩ | rfl)
             (try simp only [Act.put, List.setIfInBounds_toArray, List.set_cons_zero, List.set_cons_succ]))
        first
          | (refine ty_skip rfl rfl ?_; (try simp only [Act.put, List.setIfInBounds_toArray, List.set_cons_zero, List.set_cons_succ]))
          | (refine ty_pure rfl rfl rfl rfl ?_; apply Exists.intro; refine ⟨fun wq hq hk => ?_, ?_⟩
             · simp only [pureAt]; go_simp; (try simp only [↓IntWalk.iteOmega]); (try go_bits); (try simp only [pureUpon]); (first | done | exact ⟨rfl, rfl⟩ | exact ⟨trivial, rfl⟩ | rfl)
             (try simp only [Act.put, List.setIfInBounds_toArray, List.set_cons_zero, List.set_cons_succ]))
        first
          | (refine ty_skip rfl rfl ?_; (try simp only [Act.put, List.setIfInBounds_toArray, List.set_cons_zero, List.set_cons_succ]))
          | (refine ty_pure rfl rfl rfl rfl ?_; apply Exists.intro; refine ⟨fun wq hq hk => ?_, ?_⟩
             · simp only [pureAt]; go_simp; (try simp only [↓IntWalk.iteOmega]); (try go_bits); (try simp only [pureUpon]); (first | done | exact ⟨rfl, rfl⟩ | exact ⟨trivial, rfl⟩ | rfl)
             (try simp only [Act.put, List.setIfInBounds_toArray, List.set_cons_zero, List.set_cons_succ]))
        refine ty_nil ?_
        simp only [List.drop_succ_cons, List.drop_zero]
        intro W9 hw9 hΓ
        have V9 := V.below hw9.out
        by_cases hoc : cap = o
        · subst hoc
          have hm0 : m = 0 := by omega
          have hsc0 : sc.data.toList = [] := List.eq_nil_of_length_eq_zero (by show sc.size = 0; rw [HSC.out]; exact hm0)
          have hcs := run_copy_string (P := Try.prog) W9 34 9 3 5 G 0 0 0 sc Try.underlying34 Try.sizeOf5 (by have := HSC.out; omega) (fun j hj => by have := HSC.out; omega) (fun j hj => by have := HSC.out; omega)
          have hw0 : W9.setCells G 0 (sc.data.toList.map fun x => Value.int .u8 (x.toNat : Int)) = W9 := by rw [hsc0]; rfl
          rw [hw0] at hcs
          have V10 : PAt w W9 A R G cw ch sx sy t0 (cells.take cap ++ sc.data.toList ++ cells.drop (cap + m)) := by
            rw [hsc0, hm0, List.append_nil, Nat.add_zero, List.take_append_drop]; exact V9
          clear hΓ hw9 V V9 BRc BRf BRl HBV hBs hw0 hsc0 hm0
          go_wp2_with fail
          go_roundg (gk - 3)
          case rel => exact ⟨sn, _, rfl, by have := HSN.out; have := HEM.out; omega, by have := HSN.out; omega, HAP2.out, by have h7 := HCL.out; have h8 := HSC.out; have h9 : sc.data.toList.length = sc.size := rfl; simp only [List.length_append, List.length_take, List.length_drop]; omega, V10⟩
          case measure => omega
        · have hcs := run_copy_string (P := Try.prog) W9 34 9 3 5 G o (n - o) (cap - o) sc Try.underlying34 Try.sizeOf5 (by have := HSC.out; omega) (fun j hj => by rw [V9.row.cell _ (by have := HSC.out; have := HCL.out; omega)]; rfl) (fun j hj => V9.row.frz _ (by have := HSC.out; have := HCL.out; omega))
          have V10 : PAt w (W9.setCells G o (sc.data.toList.map fun x => Value.int .u8 (x.toNat : Int))) A R G cw ch sx sy t0 (cells.take o ++ sc.data.toList ++ cells.drop (o + sc.data.toList.length)) := V9.sets o sc.data.toList (by have h5 := HSC.out; have h6 : sc.data.toList.length = sc.size := rfl; have := HCL.out; omega)
          rw [show sc.data.toList.length = m from HSC.out] at V10
          clear hΓ hw9 V V9 BRc BRf BRl HBV hBs
          go_wp2_with fail
          go_roundg (gk - 3)
          case rel => exact ⟨sn, _, rfl, by have := HSN.out; have := HEM.out; omega, by have := HSN.out; omega, HAP2.out, by have h7 := HCL.out; have h8 := HSC.out; have h9 : sc.data.toList.length = sc.size := rfl; simp only [List.length_append, List.length_take, List.length_drop]; omega, V10⟩
          case measure => omega
end Go.Proofs.Ytgdmeaoghhkknaa
