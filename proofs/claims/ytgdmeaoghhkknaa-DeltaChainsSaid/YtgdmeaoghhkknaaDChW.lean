/- DeltaChains: the walk. -/
import Derived.Test.YtgdmeaoghhkknaaDel8
namespace Go.Proofs.Ytgdmeaoghhkknaa
open Go.RowKit

set_option maxHeartbeats 4000000 in
set_option maxRecDepth 20000 in
theorem chains_long (a b z : Int) (a0 : Option Addr) (len cap : Nat) (w : World) (h : 6 < len) :
    Calls Try.prog 9 #[.int .u8 a, .int .u8 b, .slice a0 len cap, .int .u8 z] w fun e w' => e = .returned (.bool true) ∧ Below w.heap.size w w' := by
  have hl : (6 : Int) < len := by omega
  go_enter Try.func9, Try.ntmps9
  go_wp2_with fail
  refine (awake12 _).mono ?_
  rintro e w1 ⟨rfl, hb⟩
  go_wp2_with fail
  go_ret
  exact ⟨rfl, hb⟩
/-- Two screens of one size. -/
structure Two (cw ch : Nat) (S H : Scr) : Prop where
  sok : S.Ok
  hok : H.Ok
  spl : Plain S.b
  sw : S.w = cw
  sh : S.h = ch
  hw : H.w = cw
  hh : H.h = ch
theorem Two.put {cw ch : Nat} {S H : Scr} (h : Two cw ch S H) (l : List UInt8) : Two cw ch (putL S l) H :=
  ⟨putL_ok h.sok l, h.hok, plain_putL h.spl l, (putL_w S l).1.trans h.sw, (putL_w S l).2.trans h.sh, h.hw, h.hh⟩
theorem Two.same {cw ch : Nat} {S H : Scr} (h : Two cw ch S H) : Two cw ch S S := ⟨h.sok, h.sok, h.spl, h.sw, h.sh, h.sw, h.sh⟩
theorem Two.deltas {cw ch : Nat} {S H : Scr} (h : Two cw ch S H) : ∃ d : ByteArray,
    (∀ W, Calls Try.prog 27 #[VV cw ch H.x H.y (txt H.b), VV cw ch S.x S.y (txt S.b)] W fun e w' => e = .returned (.string d) ∧ Below W.heap.size W w') ∧
    (∀ W, Calls Try.prog 28 #[VV cw ch H.x H.y (txt H.b), .string d] W fun e w' => e = .returned (.tuple #[VV cw ch S.x S.y (txt S.b), .int .i64 0]) ∧ Below W.heap.size W w') := by
  have hlen := (ofL_len H S h.hok h.sok (h.sw.trans h.hw.symm) (h.sh.trans h.hh.symm)).2
  have hcl := cnt_le H.b S.b
  have hn := wh_small h.hok.w2 h.hok.h2
  rw [h.hok.len] at hcl
  have hdo := do_of H S h.hok h.sok h.spl
  refine ⟨⟨(ofL H S).toArray⟩, fun W => ?_, fun W => ?_⟩
  · have := of_any H S W h.hok h.sok
    rw [h.hw, h.hh, h.sw, h.sh] at this
    exact this
  · have h5 := do_any H ⟨(ofL H S).toArray⟩ W h.hok (by show (ofL H S).length ≤ 10000; omega)
    rw [show (⟨(ofL H S).toArray⟩ : ByteArray).data.toList = ofL H S from rfl, hdo] at h5
    have e : pv (some S) = .tuple #[VV cw ch S.x S.y (txt S.b), .int .i64 0] := by
      show Value.tuple #[VV S.w S.h S.x S.y (txt S.b), .int .i64 0] = _
      rw [h.sw, h.sh]
    rw [e, h.hw, h.hh] at h5
    exact h5
theorem Two.putc {cw ch : Nat} {S H : Scr} (h : Two cw ch S H) (o : ByteArray) (ho : o.size ≤ 100000) (W : World) :
    Calls Try.prog 14 #[VV cw ch S.x S.y (txt S.b), .string o] W fun e w' => e = .returned (VV cw ch (putL S o.data.toList).x (putL S o.data.toList).y (txt (putL S o.data.toList).b)) ∧ Below W.heap.size W w' := by
  have h5 := put_vv S o W h.sok ho _ rfl
  rw [h.sw, h.sh, (putL_w S _).1, (putL_w S _).2, h.sw, h.sh] at h5
  exact h5
abbrev scells (cw ch : Nat) (S : Scr) : Array Value := #[.int .i64 cw, .int .i64 ch, .int .i64 S.x, .int .i64 S.y, .string (txt S.b)]

set_option maxHeartbeats 16000000 in
set_option maxRecDepth 20000 in
theorem chains_walk (a b z : Nat) (a0 : Option Addr) (len cap : Nat) (ss : List ByteArray) (w : World) (h6 : len ≤ 6) (ha : a ≤ 255) (hb' : b ≤ 255) (hz : z ≤ 255)
    (hA : len = 0 ∨ ∃ bb off, a0 = some ⟨bb, off, none⟩ ∧ bb < w.heap.size ∧ ∀ j, j < len → w.cell? ⟨bb, off + j, none⟩ = some (.string (ss.getD j ⟨#[]⟩))) :
    Calls Try.prog 9 #[.int .u8 a, .int .u8 b, .slice a0 len cap, .int .u8 z] w fun e w' => e = .returned (.bool true) ∧ Below w.heap.size w w' := by
  have hl6 : ¬ (6 : Int) < len := by omega
  have L1 := Lib.hid (fun W => look_any a b ⟨#[]⟩ W ha hb' (by show 0 ≤ 10000; omega))
  have hok := lookS_ok a b ⟨#[]⟩
  have hpl := lookS_plain a b ⟨#[]⟩
  have hd := lookS_w a b ⟨#[]⟩
  obtain ⟨S0, hS0⟩ : ∃ x, lookS a b ⟨#[]⟩ = x := ⟨_, rfl⟩
  rw [hS0] at L1 hok hpl hd
  obtain ⟨cw, hcw⟩ : ∃ x, 1 + a % 80 = x := ⟨_, rfl⟩
  obtain ⟨ch, hch⟩ : ∃ x, 1 + b % 24 = x := ⟨_, rfl⟩
  rw [hcw, hch] at hd
  have HT0 : Two cw ch S0 S0 := ⟨hok, hok, hpl, hd.1, hd.2, hd.1, hd.2⟩
  simp only [hd.1, hd.2] at L1
  have HA := Lib.hid hA
  clear hok hpl hd hS0 hcw hch hA
  go_enter Try.func9, Try.ntmps9
  go_wp2_with fail
  refine (awake12 _).mono ?_
  rintro e W1 ⟨rfl, hb⟩
  have HB1 : Below w.heap.size w W1 := Below.thn (by (repeat (first | (with_reducible assumption) | (with_reducible exact Below.refl _ _) | with_reducible apply bl_drewN | with_reducible apply Below.drew | (with_reducible apply bl_alloc; focus (first | (simp; done) | (simp; omega) | omega)) | (with_reducible apply bl_set; focus (first | (simp; done) | (simp; omega) | omega))))) hb
  have HB1s := HB1.size
  clear hb
  go_wp2_with fail
  refine (L1.out _).mono ?_
  rintro e W2 ⟨b2, o2, c2, rfl, R2, hb⟩
  have HB2 := Below.thn HB1 hb HB1s
  have HB2s := HB2.size
  clear hb HB1 HB1s R2
  go_upto_region 6 with fail
  refine wp_absQ (fun W => Below w.heap.size w W ∧ Blk W W2.heap.size (scells cw ch S0) 24) ⟨by (repeat (first | (with_reducible assumption) | (with_reducible exact Below.refl _ _) | with_reducible apply bl_drewN | with_reducible apply Below.drew | (with_reducible apply bl_alloc; focus (first | (simp; done) | (simp; omega) | omega)) | (with_reducible apply bl_set; focus (first | (simp; done) | (simp; omega) | omega)))), by (repeat (first | (with_reducible assumption) | (with_reducible apply Blk.new'; (first | (with_reducible rfl) | (simp; done))) | with_reducible apply Blk.alloc | with_reducible apply Blk.set | ((with_reducible apply Blk.set_ne); focus (first | (simp; done) | (simp; omega))) | with_reducible apply Blk.drewN | with_reducible apply Blk.drew))⟩ (fun W3 h5 => ?_)
  obtain ⟨bS, hbS⟩ : ∃ x, W2.heap.size = x := ⟨_, rfl⟩
  rw [hbS] at h5 ⊢
  obtain ⟨HB3, S3⟩ := h5
  have HB3s := HB3.size
  have S3c := S3.cell; have S3l := S3.lt
  have gS : w.heap.size ≤ bS := by omega
  go_upto_region 7 with fail
  refine wp_absQ (fun W => Below w.heap.size w W ∧ Blk W bS (scells cw ch S0) 24 ∧ Blk W W3.heap.size (scells cw ch S0) 24) ⟨by (repeat (first | (with_reducible assumption) | (with_reducible exact Below.refl _ _) | with_reducible apply bl_drewN | with_reducible apply Below.drew | (with_reducible apply bl_alloc; focus (first | (simp; done) | (simp; omega) | omega)) | (with_reducible apply bl_set; focus (first | (simp; done) | (simp; omega) | omega)))), by (repeat (first | (with_reducible assumption) | (with_reducible apply Blk.new'; (first | (with_reducible rfl) | (simp; done))) | with_reducible apply Blk.alloc | with_reducible apply Blk.set | ((with_reducible apply Blk.set_ne); focus (first | (simp; done) | (simp; omega))) | with_reducible apply Blk.drewN | with_reducible apply Blk.drew)), by (repeat (first | (with_reducible assumption) | (with_reducible apply Blk.new'; (first | (with_reducible rfl) | (simp; done))) | with_reducible apply Blk.alloc | with_reducible apply Blk.set | ((with_reducible apply Blk.set_ne); focus (first | (simp; done) | (simp; omega))) | with_reducible apply Blk.drewN | with_reducible apply Blk.drew))⟩ (fun W4 h5 => ?_)
  have hne : bS ≠ W3.heap.size := by omega
  have gH : w.heap.size ≤ W3.heap.size := by omega
  obtain ⟨bH, hbH⟩ : ∃ x, W3.heap.size = x := ⟨_, rfl⟩
  rw [hbH] at h5 hne gH ⊢
  obtain ⟨HB4, S4, H4⟩ := h5
  have HB4s := HB4.size
  clear hbS hbH HB2 HB2s HB3 HB3s S3 S3c S3l
  go_wp2_with fail
  go_loopg [33] len (fun g t33 wr => ∃ (i : Nat) (S H : Scr), t33 = .int .i64 i ∧ i + g = len ∧ Two cw ch S H ∧ Below w.heap.size w wr ∧ Blk wr bS (scells cw ch S) 24 ∧ Blk wr bH (scells cw ch H) 24)
  case atStart => exact ⟨0, S0, S0, rfl, by omega, HT0, HB4, S4, H4⟩
  case round =>
    clear HB4 S4 H4 HB4s HT0
    obtain ⟨i, S, H, rfl, hi, T, HB, BS, BH⟩ := hrel
    have HBs := HB.size
    have HI := Lib.hid hi
    have HT := Lib.hid T
    cases gk with
    | zero =>
      have hi' : ¬ (i : Int) < len := by omega
      clear hi T
      obtain ⟨d, cO, cD⟩ := HT.out.deltas
      have CO := Lib.hid cO; have CD := Lib.hid cD
      clear cO cD
      go_wp2_with fail
      refine wp_region_typed 9 (fun k => match k with  | _ => []) (fun k => match k with | 7 => true | _ => false) (fun k => match k with | 3 => some ⟨(Unit), (()), (fun _ => .string d), (fun _ _ => True), (fun _ _ _ h _ => h)⟩ | 4 => some ⟨(Unit), (()), (fun _ => .tuple #[VV cw ch S.x S.y (txt S.b), .int .i64 0]), (fun _ _ => True), (fun _ _ _ h _ => h)⟩ | 8 => some ⟨(Nat), (0), (fun b => .pointer (some ⟨b, 0, none⟩)), (fun b w => wr.heap.size ≤ b ∧ Blk w b #[.int .i64 0, .int .i64 0, .int .i64 0, .int .i64 0, .string ⟨#[]⟩] 24), (fun b w w' h hb => ⟨h.1, h.2.below hb⟩)⟩ | _ => none) (by kernel_rfl) (by kernel_rfl) (by intro d0 v0 c0 a0 w0 h0; cases d0 <;> exact h0) ?_
      rw [show List.range 9 = [0, 1, 2, 3, 4, 5, 6, 7, 8] from rfl]
      first
        | (refine ty_skip rfl rfl ?_; (try simp only [Act.put, List.setIfInBounds_toArray, List.set_cons_zero, List.set_cons_succ]))
        | (refine ty_pure rfl rfl rfl rfl ?_; apply Exists.intro; refine ⟨fun wq hq hk => ?_, ?_⟩
           · have f0 := hq.blk BH; have f1 := hq.blk BS; simp only [pureAt]; go_simp; (try simp only [↓IntWalk.iteOmega]); (try go_bits); (try simp only [pureUpon]); (first | done | exact ⟨rfl, rfl⟩ | exact ⟨trivial, rfl⟩ | rfl)
           (try simp only [Act.put, List.setIfInBounds_toArray, List.set_cons_zero, List.set_cons_succ]))
      first
        | (refine ty_skip rfl rfl ?_; (try simp only [Act.put, List.setIfInBounds_toArray, List.set_cons_zero, List.set_cons_succ]))
        | (refine ty_pure rfl rfl rfl rfl ?_; apply Exists.intro; refine ⟨fun wq hq hk => ?_, ?_⟩
           · have f0 := hq.blk BH; have f1 := hq.blk BS; simp only [pureAt]; go_simp; (try simp only [↓IntWalk.iteOmega]); (try go_bits); (try simp only [pureUpon]); (first | done | exact ⟨rfl, rfl⟩ | exact ⟨trivial, rfl⟩ | rfl)
           (try simp only [Act.put, List.setIfInBounds_toArray, List.set_cons_zero, List.set_cons_succ]))
      first
        | (refine ty_skip rfl rfl ?_; (try simp only [Act.put, List.setIfInBounds_toArray, List.set_cons_zero, List.set_cons_succ]))
        | (refine ty_pure rfl rfl rfl rfl ?_; apply Exists.intro; refine ⟨fun wq hq hk => ?_, ?_⟩
           · have f0 := hq.blk BH; have f1 := hq.blk BS; simp only [pureAt]; go_simp; (try simp only [↓IntWalk.iteOmega]); (try go_bits); (try simp only [pureUpon]); (first | done | exact ⟨rfl, rfl⟩ | exact ⟨trivial, rfl⟩ | rfl)
           (try simp only [Act.put, List.setIfInBounds_toArray, List.set_cons_zero, List.set_cons_succ]))
      refine ty_rel rfl rfl _ rfl rfl (fun wq hq hk => ?_) ?_
      · have f0 := hq.blk BH; have f1 := hq.blk BS; simp only [relAt]; go_simp; (try simp only [relUpon]); (go_at_call 27; refine (CO.out _).mono ?_; rintro e w9 ⟨rfl, hb9⟩; exact ⟨_, rfl, .mk hb9 () rfl trivial⟩)
      rintro ⟨⟩
      (try simp only [Act.put, List.setIfInBounds_toArray, List.set_cons_zero, List.set_cons_succ])
      refine ty_rel rfl rfl _ rfl rfl (fun wq hq hk => ?_) ?_
      · have f0 := hq.blk BH; have f1 := hq.blk BS; simp only [relAt]; go_simp; (try simp only [relUpon]); (go_at_call 28; refine (CD.out _).mono ?_; rintro e w9 ⟨rfl, hb9⟩; exact ⟨_, rfl, .mk hb9 () rfl trivial⟩)
      rintro ⟨⟩
      (try simp only [Act.put, List.setIfInBounds_toArray, List.set_cons_zero, List.set_cons_succ])
      first
        | (refine ty_skip rfl rfl ?_; (try simp only [Act.put, List.setIfInBounds_toArray, List.set_cons_zero, List.set_cons_succ]))
        | (refine ty_pure rfl rfl rfl rfl ?_; apply Exists.intro; refine ⟨fun wq hq hk => ?_, ?_⟩
           · have f0 := hq.blk BH; have f1 := hq.blk BS; simp only [pureAt]; go_simp; (try simp only [↓IntWalk.iteOmega]); (try go_bits); (try simp only [pureUpon]); (first | done | exact ⟨rfl, rfl⟩ | exact ⟨trivial, rfl⟩ | rfl)
           (try simp only [Act.put, List.setIfInBounds_toArray, List.set_cons_zero, List.set_cons_succ]))
      first
        | (refine ty_skip rfl rfl ?_; (try simp only [Act.put, List.setIfInBounds_toArray, List.set_cons_zero, List.set_cons_succ]))
        | (refine ty_pure rfl rfl rfl rfl ?_; apply Exists.intro; refine ⟨fun wq hq hk => ?_, ?_⟩
           · have f0 := hq.blk BH; have f1 := hq.blk BS; simp only [pureAt]; go_simp; (try simp only [↓IntWalk.iteOmega]); (try go_bits); (try simp only [pureUpon]); (first | done | exact ⟨rfl, rfl⟩ | exact ⟨trivial, rfl⟩ | rfl)
           (try simp only [Act.put, List.setIfInBounds_toArray, List.set_cons_zero, List.set_cons_succ]))
      first
        | (refine ty_skip rfl rfl ?_; (try simp only [Act.put, List.setIfInBounds_toArray, List.set_cons_zero, List.set_cons_succ]))
        | (refine ty_late rfl rfl rfl ?_; apply Exists.intro; refine ⟨fun wq => ?_, ?_⟩
           · simp only [pureAt]; go_simp; (try simp only [↓IntWalk.iteOmega]); (try go_bits); (try simp only [pureUpon]); (first | done | exact ⟨rfl, rfl⟩ | exact ⟨trivial, rfl⟩ | rfl)
           (try simp only [Act.put, List.setIfInBounds_toArray, List.set_cons_zero, List.set_cons_succ]))
      refine ty_rel rfl rfl _ rfl rfl (fun wq hq hk => ?_) ?_
      · have f0 := hq.blk BH; have f1 := hq.blk BS; simp only [relAt]; go_simp; (try simp only [relUpon]); exact .mk ((Below.refl _ _).alloc (Nat.le_refl _) _) wq.heap.size rfl ⟨hq.size, Blk.new wq _ _⟩
      rintro (b8 : Nat)
      (try simp only [Act.put, List.setIfInBounds_toArray, List.set_cons_zero, List.set_cons_succ])
      refine ty_nil ?_
      simp only [List.drop_succ_cons, List.drop_zero]
      intro W8 hw8 hΓ
      have A8 : wr.heap.size ≤ b8 ∧ Blk W8 b8 #[.int .i64 0, .int .i64 0, .int .i64 0, .int .i64 0, .string ⟨#[]⟩] 24 := hΓ _ (.head _)
      have HB8 := Below.thn HB hw8.out HBs
      have BS8 := BS.below hw8.out
      have l1 := BS.lt
      have n1 : bS ≠ b8 := by have := A8.1; omega
      have g8 : w.heap.size ≤ b8 := by have := A8.1; omega
      clear hΓ hw8 HB BS BH HBs
      refine wpList_put rfl 24 _ _ rfl b8 _ _ 24 rfl rfl A8.2 (by kernel_rfl) rfl (by first | rfl | decide | simp [Value.oneCell']) (fun W9 hp9 B9 => ?_)
      (try simp only [Act.put])
      have HB9 := hp9.below g8 HB8
      have BS9 := hp9.blk n1 BS8
      have HB9s := HB9.size
      have B9c := B9.cell; have B9l := B9.lt; have BS9c := BS9.cell; have BS9l := BS9.lt
      clear A8 HB8 BS8 hp9 l1
      go_wp2_with fail
      refine (same_true _ _ _ _ _ _).mono ?_
      rintro e W11 ⟨rfl, hb⟩
      have HB11 := Below.thn HB9 hb HB9s
      go_wp2_with fail
      go_ret
      exact ⟨rfl, HB11⟩
    | succ g =>
      have hi' : (i : Int) < len := by omega
      have hil : i < len := by omega
      clear hi T
      rcases HA.out with h5 | ⟨bb, off, rfl, hbb, hcs⟩
      · omega
      obtain ⟨o, ho⟩ : ∃ o, ss.getD i ⟨#[]⟩ = o := ⟨_, rfl⟩
      have hcell : wr.cell? ⟨bb, off + i, none⟩ = some (Value.string o) := by
        rw [← ho, ← hcs i hil]; exact HB.cell (p := ⟨bb, _, none⟩) hbb
      have hbl : bb < wr.heap.size := by omega
      clear ho hcs
      by_cases h300 : (300 : Int) < o.size
      · go_wp2_with fail
        go_ret
        exact ⟨rfl, HB⟩
      have cP := HT.out.putc o (by omega)
      have T1 := HT.out.put o.data.toList
      obtain ⟨S1, hS1⟩ : ∃ x, putL S o.data.toList = x := ⟨_, rfl⟩
      rw [hS1] at cP T1
      have CP := Lib.hid cP
      have HT1 := Lib.hid T1
      have BSc := BS.cell; have BSl := BS.lt
      clear cP T1 hS1
      go_wp2_with fail
      refine (CP.out _).mono ?_
      rintro e W5 ⟨rfl, hb⟩
      have HB5 := Below.thn HB hb HBs
      have BS5 := BS.below hb
      have BH5 := BH.below hb
      have HB5s := HB5.size
      have BS5c := BS5.cell; have BS5l := BS5.lt; have BS5f := BS5.frozen
      clear hb HB HBs BS BH BSc BSl hcell hbl
      go_upto_region 13 with fail
      refine wp_absQ (fun W => Below w.heap.size w W ∧ Blk W bS (scells cw ch S1) 24 ∧ Blk W bH (scells cw ch H) 24) ⟨by (repeat (first | (with_reducible assumption) | (with_reducible exact Below.refl _ _) | with_reducible apply bl_drewN | with_reducible apply Below.drew | (with_reducible apply bl_alloc; focus (first | (simp; done) | (simp; omega) | omega)) | (with_reducible apply bl_set; focus (first | (simp; done) | (simp; omega) | omega)))), (((((BS5.set).set).set).set).set).conv rfl, by (repeat (first | (with_reducible assumption) | (with_reducible apply Blk.new'; (first | (with_reducible rfl) | (simp; done))) | with_reducible apply Blk.alloc | with_reducible apply Blk.set | ((with_reducible apply Blk.set_ne); focus (first | (simp; done) | (simp; omega))) | with_reducible apply Blk.drewN | with_reducible apply Blk.drew))⟩ (fun W6 h5 => ?_)
      obtain ⟨HB6, BS6, BH6⟩ := h5
      have HB6s := HB6.size
      clear HB5 HB5s BS5 BH5 BS5c BS5l BS5f
      have hi255 : i ≤ 255 := by omega
      obtain ⟨d, cO, cD⟩ := HT1.out.deltas
      have CO := Lib.hid cO; have CD := Lib.hid cD
      clear cO cD
      go_wp2_with fail
      · go_roundg g
        case rel => exact ⟨i + 1, S1, H, by simp, by have := HI.out; omega, HT1.out, HB6, BS6, BH6⟩
        case measure => omega
      · refine wp_region_typed 9 (fun k => match k with  | _ => []) (fun k => match k with | 7 => true | _ => false) (fun k => match k with | 3 => some ⟨(Unit), (()), (fun _ => .string d), (fun _ _ => True), (fun _ _ _ h _ => h)⟩ | 4 => some ⟨(Unit), (()), (fun _ => .tuple #[VV cw ch S1.x S1.y (txt S1.b), .int .i64 0]), (fun _ _ => True), (fun _ _ _ h _ => h)⟩ | 8 => some ⟨(Nat), (0), (fun b => .pointer (some ⟨b, 0, none⟩)), (fun b w => W6.heap.size ≤ b ∧ Blk w b #[.int .i64 0, .int .i64 0, .int .i64 0, .int .i64 0, .string ⟨#[]⟩] 24), (fun b w w' h hb => ⟨h.1, h.2.below hb⟩)⟩ | _ => none) (by kernel_rfl) (by kernel_rfl) (by intro d0 v0 c0 a0 w0 h0; cases d0 <;> exact h0) ?_
        rw [show List.range 9 = [0, 1, 2, 3, 4, 5, 6, 7, 8] from rfl]
        first
          | (refine ty_skip rfl rfl ?_; (try simp only [Act.put, List.setIfInBounds_toArray, List.set_cons_zero, List.set_cons_succ]))
          | (refine ty_pure rfl rfl rfl rfl ?_; apply Exists.intro; refine ⟨fun wq hq hk => ?_, ?_⟩
             · have f0 := hq.blk BH6; have f1 := hq.blk BS6; simp only [pureAt]; go_simp; (try simp only [↓IntWalk.iteOmega]); (try go_bits); (try simp only [pureUpon]); (first | done | exact ⟨rfl, rfl⟩ | exact ⟨trivial, rfl⟩ | rfl)
             (try simp only [Act.put, List.setIfInBounds_toArray, List.set_cons_zero, List.set_cons_succ]))
        first
          | (refine ty_skip rfl rfl ?_; (try simp only [Act.put, List.setIfInBounds_toArray, List.set_cons_zero, List.set_cons_succ]))
          | (refine ty_pure rfl rfl rfl rfl ?_; apply Exists.intro; refine ⟨fun wq hq hk => ?_, ?_⟩
             · have f0 := hq.blk BH6; have f1 := hq.blk BS6; simp only [pureAt]; go_simp; (try simp only [↓IntWalk.iteOmega]); (try go_bits); (try simp only [pureUpon]); (first | done | exact ⟨rfl, rfl⟩ | exact ⟨trivial, rfl⟩ | rfl)
             (try simp only [Act.put, List.setIfInBounds_toArray, List.set_cons_zero, List.set_cons_succ]))
        first
          | (refine ty_skip rfl rfl ?_; (try simp only [Act.put, List.setIfInBounds_toArray, List.set_cons_zero, List.set_cons_succ]))
          | (refine ty_pure rfl rfl rfl rfl ?_; apply Exists.intro; refine ⟨fun wq hq hk => ?_, ?_⟩
             · have f0 := hq.blk BH6; have f1 := hq.blk BS6; simp only [pureAt]; go_simp; (try simp only [↓IntWalk.iteOmega]); (try go_bits); (try simp only [pureUpon]); (first | done | exact ⟨rfl, rfl⟩ | exact ⟨trivial, rfl⟩ | rfl)
             (try simp only [Act.put, List.setIfInBounds_toArray, List.set_cons_zero, List.set_cons_succ]))
        refine ty_rel rfl rfl _ rfl rfl (fun wq hq hk => ?_) ?_
        · have f0 := hq.blk BH6; have f1 := hq.blk BS6; simp only [relAt]; go_simp; (try simp only [relUpon]); (go_at_call 27; refine (CO.out _).mono ?_; rintro e w9 ⟨rfl, hb9⟩; exact ⟨_, rfl, .mk hb9 () rfl trivial⟩)
        rintro ⟨⟩
        (try simp only [Act.put, List.setIfInBounds_toArray, List.set_cons_zero, List.set_cons_succ])
        refine ty_rel rfl rfl _ rfl rfl (fun wq hq hk => ?_) ?_
        · have f0 := hq.blk BH6; have f1 := hq.blk BS6; simp only [relAt]; go_simp; (try simp only [relUpon]); (go_at_call 28; refine (CD.out _).mono ?_; rintro e w9 ⟨rfl, hb9⟩; exact ⟨_, rfl, .mk hb9 () rfl trivial⟩)
        rintro ⟨⟩
        (try simp only [Act.put, List.setIfInBounds_toArray, List.set_cons_zero, List.set_cons_succ])
        first
          | (refine ty_skip rfl rfl ?_; (try simp only [Act.put, List.setIfInBounds_toArray, List.set_cons_zero, List.set_cons_succ]))
          | (refine ty_pure rfl rfl rfl rfl ?_; apply Exists.intro; refine ⟨fun wq hq hk => ?_, ?_⟩
             · have f0 := hq.blk BH6; have f1 := hq.blk BS6; simp only [pureAt]; go_simp; (try simp only [↓IntWalk.iteOmega]); (try go_bits); (try simp only [pureUpon]); (first | done | exact ⟨rfl, rfl⟩ | exact ⟨trivial, rfl⟩ | rfl)
             (try simp only [Act.put, List.setIfInBounds_toArray, List.set_cons_zero, List.set_cons_succ]))
        first
          | (refine ty_skip rfl rfl ?_; (try simp only [Act.put, List.setIfInBounds_toArray, List.set_cons_zero, List.set_cons_succ]))
          | (refine ty_pure rfl rfl rfl rfl ?_; apply Exists.intro; refine ⟨fun wq hq hk => ?_, ?_⟩
             · have f0 := hq.blk BH6; have f1 := hq.blk BS6; simp only [pureAt]; go_simp; (try simp only [↓IntWalk.iteOmega]); (try go_bits); (try simp only [pureUpon]); (first | done | exact ⟨rfl, rfl⟩ | exact ⟨trivial, rfl⟩ | rfl)
             (try simp only [Act.put, List.setIfInBounds_toArray, List.set_cons_zero, List.set_cons_succ]))
        first
          | (refine ty_skip rfl rfl ?_; (try simp only [Act.put, List.setIfInBounds_toArray, List.set_cons_zero, List.set_cons_succ]))
          | (refine ty_late rfl rfl rfl ?_; apply Exists.intro; refine ⟨fun wq => ?_, ?_⟩
             · simp only [pureAt]; go_simp; (try simp only [↓IntWalk.iteOmega]); (try go_bits); (try simp only [pureUpon]); (first | done | exact ⟨rfl, rfl⟩ | exact ⟨trivial, rfl⟩ | rfl)
             (try simp only [Act.put, List.setIfInBounds_toArray, List.set_cons_zero, List.set_cons_succ]))
        refine ty_rel rfl rfl _ rfl rfl (fun wq hq hk => ?_) ?_
        · have f0 := hq.blk BH6; have f1 := hq.blk BS6; simp only [relAt]; go_simp; (try simp only [relUpon]); exact .mk ((Below.refl _ _).alloc (Nat.le_refl _) _) wq.heap.size rfl ⟨hq.size, Blk.new wq _ _⟩
        rintro (b8 : Nat)
        (try simp only [Act.put, List.setIfInBounds_toArray, List.set_cons_zero, List.set_cons_succ])
        refine ty_nil ?_
        simp only [List.drop_succ_cons, List.drop_zero]
        intro W8 hw8 hΓ
        have A8 : W6.heap.size ≤ b8 ∧ Blk W8 b8 #[.int .i64 0, .int .i64 0, .int .i64 0, .int .i64 0, .string ⟨#[]⟩] 24 := hΓ _ (.head _)
        have HB8 := Below.thn HB6 hw8.out HB6s
        have BS8 := BS6.below hw8.out
        have BH8 := BH6.below hw8.out
        have l1 := BS6.lt; have l2 := BH6.lt
        have n1 : bS ≠ b8 := by have := A8.1; omega
        have n2 : bH ≠ b8 := by have := A8.1; omega
        have g8 : w.heap.size ≤ b8 := by have := A8.1; omega
        clear hΓ hw8 HB6 BS6 BH6 HB6s
        refine wpList_put rfl 24 _ _ rfl b8 _ _ 24 rfl rfl A8.2 (by kernel_rfl) rfl (by first | rfl | decide | simp [Value.oneCell']) (fun W9 hp9 B9 => ?_)
        (try simp only [Act.put])
        have HB9 := hp9.below g8 HB8
        have BS9 := hp9.blk n1 BS8
        have BH9 := hp9.blk n2 BH8
        have HB9s := HB9.size
        have B9c := B9.cell; have B9l := B9.lt; have BH9c := BH9.cell; have BH9f := BH9.frozen; have BH9l := BH9.lt
        clear A8 HB8 BS8 BH8 hp9 l1 l2
        go_upto_region 16 with fail
        refine wp_absQ (fun W => Below w.heap.size w W ∧ Blk W bS (scells cw ch S1) 24 ∧ Blk W bH (scells cw ch S1) 24) ⟨by (repeat (first | (with_reducible assumption) | (with_reducible exact Below.refl _ _) | with_reducible apply bl_drewN | with_reducible apply Below.drew | (with_reducible apply bl_alloc; focus (first | (simp; done) | (simp; omega) | omega)) | (with_reducible apply bl_set; focus (first | (simp; done) | (simp; omega) | omega)))), by (repeat (first | (with_reducible assumption) | (with_reducible apply Blk.new'; (first | (with_reducible rfl) | (simp; done))) | with_reducible apply Blk.alloc | with_reducible apply Blk.set | ((with_reducible apply Blk.set_ne); focus (first | (simp; done) | (simp; omega))) | with_reducible apply Blk.drewN | with_reducible apply Blk.drew)), (((((BH9.set).set).set).set).set).conv rfl⟩ (fun W10 h5 => ?_)
        obtain ⟨HB10, BS10, BH10⟩ := h5
        have HB10s := HB10.size
        clear HB9 BS9 BH9 HB9s B9 B9c B9l BH9c BH9f BH9l
        have BS10c := BS10.cell; have BS10l := BS10.lt; have BH10c := BH10.cell; have BH10l := BH10.lt
        go_wp2_with fail
        refine (same_true _ _ _ _ _ _).mono ?_
        rintro e W11 ⟨rfl, hb⟩
        have HB11 := Below.thn HB10 hb HB10s
        have BS11 := BS10.below hb
        have BH11 := BH10.below hb
        clear hb HB10 BS10 BH10 HB10s BS10c BS10l BH10c BH10l
        go_wp2_with fail
        go_roundg g
        case rel => exact ⟨i + 1, S1, S1, by simp, by have := HI.out; omega, HT1.out.same, HB11, BS11, BH11⟩
        case measure => omega
end Go.Proofs.Ytgdmeaoghhkknaa
