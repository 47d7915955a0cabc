/- Package delta: Of. -/
import Derived.Test.YtgdmeaoghhkknaaDel2
namespace Go.Proofs.Ytgdmeaoghhkknaa
open Go.RowKit

theorem row_two {w : World} {g : Nat} {a b : Nat} {t : TypeId} (ha : a ≤ 255) (hb : b ≤ 255) (B : Blk w g #[.int .u8 a, .int .u8 b] t) : BRow w g [UInt8.ofNat a, UInt8.ofNat b] := by
  refine ⟨B.lt, fun i hi => ?_, fun i _ => B.frozen i⟩
  have e : ∀ n : Nat, n ≤ 255 → (UInt8.ofNat n).toNat = n := fun n hn => by rw [UInt8.toNat_ofNat']; omega
  rw [B.cell]
  have h4 : i < 2 := hi
  match i, h4 with
  | 0, _ => simp [bval, e a ha]
  | 1, _ => simp [bval, e b hb]
theorem row_three {w : World} {g : Nat} {a b c : Nat} {t : TypeId} (ha : a ≤ 255) (hb : b ≤ 255) (hc : c ≤ 255) (B : Blk w g #[.int .u8 a, .int .u8 b, .int .u8 c] t) : BRow w g [UInt8.ofNat a, UInt8.ofNat b, UInt8.ofNat c] := by
  refine ⟨B.lt, fun i hi => ?_, fun i _ => B.frozen i⟩
  have e : ∀ n : Nat, n ≤ 255 → (UInt8.ofNat n).toNat = n := fun n hn => by rw [UInt8.toNat_ofNat']; omega
  rw [B.cell]
  have h4 : i < 3 := hi
  match i, h4 with
  | 0, _ => simp [bval, e a ha]
  | 1, _ => simp [bval, e b hb]
  | 2, _ => simp [bval, e c hc]
theorem txt_add (l m : List UInt8) : (⟨l.toArray⟩ : ByteArray) ++ ⟨m.toArray⟩ = ⟨(l ++ m).toArray⟩ := by apply ba_ext; rw [ba_app]

set_option maxHeartbeats 4000000 in
set_option maxRecDepth 20000 in
theorem of_other' (sw sh sx sy tw th tx ty : Int) (st tt q r : ByteArray) (w : World) (hT : ∀ W, Calls Try.prog 22 #[VV tw th tx ty tt] W fun e w' => e = .returned (.string q) ∧ Below W.heap.size W w')
    (radd : ∀ W, (Op.stringOp .add ⟨#[102]⟩ q).run Try.prog W = .ok (.string r) W) (hd : tw ≠ sw ∨ th ≠ sh) :
    Calls Try.prog 27 #[VV sw sh sx sy st, VV tw th tx ty tt] w fun e w' => e = .returned (.string r) ∧ Below w.heap.size w w' := by
  have CT := Lib.hid hT
  clear hT
  by_cases h1 : tw = sw
  · have h2 : ¬ th = sh := by omega
    subst h1
    clear hd
    go_enter Try.func27, Try.ntmps27
    go_wp2_with fail
    refine (size_any _ _ _ _ _ _).mono ?_
    rintro e wa ⟨rfl, hb⟩
    have HB : Below w.heap.size w wa := Below.thn (by (repeat (first | (with_reducible assumption) | (with_reducible exact Below.refl _ _) | with_reducible apply bl_drewN | with_reducible apply Below.drew | (with_reducible apply bl_alloc; focus (first | (simp; done) | (simp; omega) | omega)) | (with_reducible apply bl_set; focus (first | (simp; done) | (simp; omega) | omega))))) hb
    have HBs := HB.size
    have B1 := Blk.below (b := w.heap.size) (t := 24) (by (repeat (first | (with_reducible assumption) | (with_reducible apply Blk.new'; (first | (with_reducible rfl) | (simp; done))) | with_reducible apply Blk.alloc | with_reducible apply Blk.set | ((with_reducible apply Blk.set_ne); focus (first | (simp; done) | (simp; omega))) | with_reducible apply Blk.drewN | with_reducible apply Blk.drew))) hb
    have B1c := B1.cell; have B1f := B1.frozen; have B1l := B1.lt
    have B2 := Blk.below (b := (w.heap.size+1)) (t := 24) (by (repeat (first | (with_reducible assumption) | (with_reducible apply Blk.new'; (first | (with_reducible rfl) | (simp; done))) | with_reducible apply Blk.alloc | with_reducible apply Blk.set | ((with_reducible apply Blk.set_ne); focus (first | (simp; done) | (simp; omega))) | with_reducible apply Blk.drewN | with_reducible apply Blk.drew))) hb
    have B2c := B2.cell; have B2f := B2.frozen; have B2l := B2.lt
    clear hb
    go_wp2_with fail
    refine (size_any _ _ _ _ _ _).mono ?_
    rintro e wb ⟨rfl, hb⟩
    have HB : Below w.heap.size w wb := Below.thn (by (repeat (first | (with_reducible assumption) | (with_reducible exact Below.refl _ _) | with_reducible apply bl_drewN | with_reducible apply Below.drew | (with_reducible apply bl_alloc; focus (first | (simp; done) | (simp; omega) | omega)) | (with_reducible apply bl_set; focus (first | (simp; done) | (simp; omega) | omega))))) hb
    have HBs := HB.size
    have B1 := Blk.below (b := w.heap.size) (t := 24) (by (repeat (first | (with_reducible assumption) | (with_reducible apply Blk.new'; (first | (with_reducible rfl) | (simp; done))) | with_reducible apply Blk.alloc | with_reducible apply Blk.set | ((with_reducible apply Blk.set_ne); focus (first | (simp; done) | (simp; omega))) | with_reducible apply Blk.drewN | with_reducible apply Blk.drew))) hb
    have B1c := B1.cell; have B1f := B1.frozen; have B1l := B1.lt
    have B2 := Blk.below (b := (w.heap.size+1)) (t := 24) (by (repeat (first | (with_reducible assumption) | (with_reducible apply Blk.new'; (first | (with_reducible rfl) | (simp; done))) | with_reducible apply Blk.alloc | with_reducible apply Blk.set | ((with_reducible apply Blk.set_ne); focus (first | (simp; done) | (simp; omega))) | with_reducible apply Blk.drewN | with_reducible apply Blk.drew))) hb
    have B2c := B2.cell; have B2f := B2.frozen; have B2l := B2.lt
    clear hb
    have B2c := B2.cell; have B2l := B2.lt
    go_wp2_with fail
    refine (CT.out _).mono ?_
    rintro e wc ⟨rfl, hb⟩
    have HBc := Below.thn HB hb HBs
    go_wp2_with fail
    go_ret
    exact ⟨rfl, HBc⟩
  · clear hd
    go_enter Try.func27, Try.ntmps27
    go_wp2_with fail
    refine (size_any _ _ _ _ _ _).mono ?_
    rintro e wa ⟨rfl, hb⟩
    have HB : Below w.heap.size w wa := Below.thn (by (repeat (first | (with_reducible assumption) | (with_reducible exact Below.refl _ _) | with_reducible apply bl_drewN | with_reducible apply Below.drew | (with_reducible apply bl_alloc; focus (first | (simp; done) | (simp; omega) | omega)) | (with_reducible apply bl_set; focus (first | (simp; done) | (simp; omega) | omega))))) hb
    have HBs := HB.size
    have B1 := Blk.below (b := w.heap.size) (t := 24) (by (repeat (first | (with_reducible assumption) | (with_reducible apply Blk.new'; (first | (with_reducible rfl) | (simp; done))) | with_reducible apply Blk.alloc | with_reducible apply Blk.set | ((with_reducible apply Blk.set_ne); focus (first | (simp; done) | (simp; omega))) | with_reducible apply Blk.drewN | with_reducible apply Blk.drew))) hb
    have B1c := B1.cell; have B1f := B1.frozen; have B1l := B1.lt
    have B2 := Blk.below (b := (w.heap.size+1)) (t := 24) (by (repeat (first | (with_reducible assumption) | (with_reducible apply Blk.new'; (first | (with_reducible rfl) | (simp; done))) | with_reducible apply Blk.alloc | with_reducible apply Blk.set | ((with_reducible apply Blk.set_ne); focus (first | (simp; done) | (simp; omega))) | with_reducible apply Blk.drewN | with_reducible apply Blk.drew))) hb
    have B2c := B2.cell; have B2f := B2.frozen; have B2l := B2.lt
    clear hb
    go_wp2_with fail
    refine (size_any _ _ _ _ _ _).mono ?_
    rintro e wb ⟨rfl, hb⟩
    have HB : Below w.heap.size w wb := Below.thn (by (repeat (first | (with_reducible assumption) | (with_reducible exact Below.refl _ _) | with_reducible apply bl_drewN | with_reducible apply Below.drew | (with_reducible apply bl_alloc; focus (first | (simp; done) | (simp; omega) | omega)) | (with_reducible apply bl_set; focus (first | (simp; done) | (simp; omega) | omega))))) hb
    have HBs := HB.size
    have B1 := Blk.below (b := w.heap.size) (t := 24) (by (repeat (first | (with_reducible assumption) | (with_reducible apply Blk.new'; (first | (with_reducible rfl) | (simp; done))) | with_reducible apply Blk.alloc | with_reducible apply Blk.set | ((with_reducible apply Blk.set_ne); focus (first | (simp; done) | (simp; omega))) | with_reducible apply Blk.drewN | with_reducible apply Blk.drew))) hb
    have B1c := B1.cell; have B1f := B1.frozen; have B1l := B1.lt
    have B2 := Blk.below (b := (w.heap.size+1)) (t := 24) (by (repeat (first | (with_reducible assumption) | (with_reducible apply Blk.new'; (first | (with_reducible rfl) | (simp; done))) | with_reducible apply Blk.alloc | with_reducible apply Blk.set | ((with_reducible apply Blk.set_ne); focus (first | (simp; done) | (simp; omega))) | with_reducible apply Blk.drewN | with_reducible apply Blk.drew))) hb
    have B2c := B2.cell; have B2f := B2.frozen; have B2l := B2.lt
    clear hb
    have B2c := B2.cell; have B2l := B2.lt
    go_wp2_with fail
    refine (CT.out _).mono ?_
    rintro e wc ⟨rfl, hb⟩
    have HBc := Below.thn HB hb HBs
    go_wp2_with fail
    go_ret
    exact ⟨rfl, HBc⟩
theorem of_other (s t : Scr) (w : World) (ht : t.Ok) (hd : t.w ≠ s.w ∨ t.h ≠ s.h) :
    Calls Try.prog 27 #[VV s.w s.h s.x s.y (txt s.b), VV t.w t.h t.x t.y (txt t.b)] w fun e w' => e = .returned (.string ⟨(ofL s t).toArray⟩) ∧ Below w.heap.size w w' := by
  have hts : (txtS t).size ≤ 2000 := by
    show (head4 t ++ txt t.b).size ≤ _
    rw [ByteArray.size_append, txt_size, ht.len]
    have h5 := wh_small ht.w2 ht.h2
    show 4 + _ ≤ _
    omega
  have he : (⟨(ofL s t).toArray⟩ : ByteArray) = ⟨#[102]⟩ ++ txtS t := by
    apply ba_ext; rw [ba_app]; unfold ofL; rw [if_pos hd]; rfl
  rw [he]
  exact of_other' _ _ _ _ _ _ _ _ _ _ (txtS t) _ w (fun W => text_any t W ht) (fun W => run_string_add_sum W _ _ (by show 1 + _ ≤ _; omega)) (by omega)

theorem rowOf_txt (l : List UInt8) (w y : Nat) : ((txt l).extract (y * w) ((y + 1) * w)).data.toList = rowOf l w y := by
  rw [ba_extract, Nat.succ_mul, Nat.add_sub_cancel_left]; rfl
theorem rowOf_len {l : List UInt8} {w h y : Nat} (hl : l.length = w * h) (hy : y < h) : (rowOf l w y).length = w := by
  have := row_end (w := w) hy
  unfold rowOf; rw [List.length_take, List.length_drop]; omega
set_option maxHeartbeats 16000000 in
set_option maxRecDepth 20000 in
theorem of_same (s t : Scr) (w : World) (hs : s.Ok) (ht : t.Ok) (hw : t.w = s.w) (hh : t.h = s.h) :
    Calls Try.prog 27 #[VV s.w s.h s.x s.y (txt s.b), VV t.w t.h t.x t.y (txt t.b)] w fun e w' => e = .returned (.string ⟨(ofL s t).toArray⟩) ∧ Below w.heap.size w w' := by
  have hof : ofL s t = [100, UInt8.ofNat t.x, UInt8.ofNat t.y] ++ encF s.w s.b t.b 0 s.h := by unfold ofL; rw [if_neg (by omega)]
  have hlen := (ofL_len s t hs ht hw hh).2
  have hcl := cnt_le s.b t.b
  have hn := wh_small hs.w2 hs.h2
  rw [hs.len] at hcl
  have hlen2 : (ofL s t).length ≤ 8000 := by omega
  obtain ⟨cw, hcw⟩ : ∃ k, s.w = k := ⟨_, rfl⟩
  obtain ⟨ch, hch⟩ : ∃ k, s.h = k := ⟨_, rfl⟩
  have w1 : 1 ≤ cw := by rw [← hcw]; exact hs.w1
  have w2 : cw ≤ 80 := by rw [← hcw]; exact hs.w2
  have h1 : 1 ≤ ch := by rw [← hch]; exact hs.h1
  have h2 : ch ≤ 24 := by rw [← hch]; exact hs.h2
  have hxl := ht.x; have hyl := ht.y
  have hsl := hs.len; have htl := ht.len
  rw [hw, hh, hcw, hch]
  rw [hw, hcw] at hxl htl; rw [hh, hch] at hyl htl; rw [hcw, hch] at hsl
  rw [hcw, hch] at hof
  obtain ⟨x, hx⟩ : ∃ k, t.x = k := ⟨_, rfl⟩
  obtain ⟨y, hy⟩ : ∃ k, t.y = k := ⟨_, rfl⟩
  rw [hx, hy] at hof ⊢
  rw [hx] at hxl; rw [hy] at hyl
  obtain ⟨sb, hsb⟩ : ∃ k, s.b = k := ⟨_, rfl⟩
  obtain ⟨tb, htb⟩ : ∃ k, t.b = k := ⟨_, rfl⟩
  rw [hsb, htb] at hof ⊢
  rw [hsb] at hsl; rw [htb] at htl
  obtain ⟨TOT, hTOT⟩ : ∃ k, ofL s t = k := ⟨_, rfl⟩
  rw [hTOT] at hof hlen2 ⊢
  obtain ⟨sx, hsx⟩ : ∃ k, s.x = k := ⟨_, rfl⟩
  obtain ⟨sy, hsy⟩ : ∃ k, s.y = k := ⟨_, rfl⟩
  rw [hsx, hsy]
  clear hlen hcl hn hcw hch hx hy hsb htb hTOT hsx hsy hw hh hs ht
  have hsz : (txt sb).size = cw * ch := by rw [txt_size, hsl]
  have htz : (txt tb).size = cw * ch := by rw [txt_size, htl]
  have HOF := Lib.hid hof
  have HSL := Lib.hid hsl; have HTL := Lib.hid htl
  have HSZ := Lib.hid hsz; have HTZ := Lib.hid htz
  have HL := Lib.hid hlen2
  clear hof hsl htl hsz htz hlen2
  obtain ⟨st, hst⟩ : ∃ k, txt sb = k := ⟨_, rfl⟩
  obtain ⟨tt, htt⟩ : ∃ k, txt tb = k := ⟨_, rfl⟩
  rw [hst] at HSZ ⊢
  rw [htt] at HTZ ⊢
  have HST := Lib.hid (And.intro hst htt)
  clear hst htt
  go_enter Try.func27, Try.ntmps27
  go_wp2_with fail
  refine (size_any _ _ _ _ _ _).mono ?_
  rintro e wa ⟨rfl, hb⟩
  have HB : Below w.heap.size w wa := Below.thn (by (repeat (first | (with_reducible assumption) | (with_reducible exact Below.refl _ _) | with_reducible apply bl_drewN | with_reducible apply Below.drew | (with_reducible apply bl_alloc; focus (first | (simp; done) | (simp; omega) | omega)) | (with_reducible apply bl_set; focus (first | (simp; done) | (simp; omega) | omega))))) hb
  have HBs := HB.size
  have B1 := Blk.below (b := w.heap.size) (t := 24) (by (repeat (first | (with_reducible assumption) | (with_reducible apply Blk.new'; (first | (with_reducible rfl) | (simp; done))) | with_reducible apply Blk.alloc | with_reducible apply Blk.set | ((with_reducible apply Blk.set_ne); focus (first | (simp; done) | (simp; omega))) | with_reducible apply Blk.drewN | with_reducible apply Blk.drew))) hb
  have B1c := B1.cell; have B1f := B1.frozen; have B1l := B1.lt
  have B2 := Blk.below (b := (w.heap.size+1)) (t := 24) (by (repeat (first | (with_reducible assumption) | (with_reducible apply Blk.new'; (first | (with_reducible rfl) | (simp; done))) | with_reducible apply Blk.alloc | with_reducible apply Blk.set | ((with_reducible apply Blk.set_ne); focus (first | (simp; done) | (simp; omega))) | with_reducible apply Blk.drewN | with_reducible apply Blk.drew))) hb
  have B2c := B2.cell; have B2f := B2.frozen; have B2l := B2.lt
  clear hb
  go_wp2_with fail
  refine (size_any _ _ _ _ _ _).mono ?_
  rintro e wb ⟨rfl, hb⟩
  have HB : Below w.heap.size w wb := Below.thn (by (repeat (first | (with_reducible assumption) | (with_reducible exact Below.refl _ _) | with_reducible apply bl_drewN | with_reducible apply Below.drew | (with_reducible apply bl_alloc; focus (first | (simp; done) | (simp; omega) | omega)) | (with_reducible apply bl_set; focus (first | (simp; done) | (simp; omega) | omega))))) hb
  have HBs := HB.size
  have B1 := Blk.below (b := w.heap.size) (t := 24) (by (repeat (first | (with_reducible assumption) | (with_reducible apply Blk.new'; (first | (with_reducible rfl) | (simp; done))) | with_reducible apply Blk.alloc | with_reducible apply Blk.set | ((with_reducible apply Blk.set_ne); focus (first | (simp; done) | (simp; omega))) | with_reducible apply Blk.drewN | with_reducible apply Blk.drew))) hb
  have B1c := B1.cell; have B1f := B1.frozen; have B1l := B1.lt
  have B2 := Blk.below (b := (w.heap.size+1)) (t := 24) (by (repeat (first | (with_reducible assumption) | (with_reducible apply Blk.new'; (first | (with_reducible rfl) | (simp; done))) | with_reducible apply Blk.alloc | with_reducible apply Blk.set | ((with_reducible apply Blk.set_ne); focus (first | (simp; done) | (simp; omega))) | with_reducible apply Blk.drewN | with_reducible apply Blk.drew))) hb
  have B2c := B2.cell; have B2f := B2.frozen; have B2l := B2.lt
  clear hb
  have B2c := B2.cell; have B2l := B2.lt
  go_wp2_with fail
  refine (cursor_any _ _ _ _ _ _).mono ?_
  rintro e wc ⟨rfl, hb⟩
  have HB : Below w.heap.size w wc := Below.thn (by (repeat (first | (with_reducible assumption) | (with_reducible exact Below.refl _ _) | with_reducible apply bl_drewN | with_reducible apply Below.drew | (with_reducible apply bl_alloc; focus (first | (simp; done) | (simp; omega) | omega)) | (with_reducible apply bl_set; focus (first | (simp; done) | (simp; omega) | omega))))) hb
  have HBs := HB.size
  have B1 := Blk.below (b := w.heap.size) (t := 24) (by (repeat (first | (with_reducible assumption) | (with_reducible apply Blk.new'; (first | (with_reducible rfl) | (simp; done))) | with_reducible apply Blk.alloc | with_reducible apply Blk.set | ((with_reducible apply Blk.set_ne); focus (first | (simp; done) | (simp; omega))) | with_reducible apply Blk.drewN | with_reducible apply Blk.drew))) hb
  have B1c := B1.cell; have B1f := B1.frozen; have B1l := B1.lt
  have B2 := Blk.below (b := (w.heap.size+1)) (t := 24) (by (repeat (first | (with_reducible assumption) | (with_reducible apply Blk.new'; (first | (with_reducible rfl) | (simp; done))) | with_reducible apply Blk.alloc | with_reducible apply Blk.set | ((with_reducible apply Blk.set_ne); focus (first | (simp; done) | (simp; omega))) | with_reducible apply Blk.drewN | with_reducible apply Blk.drew))) hb
  have B2c := B2.cell; have B2f := B2.frozen; have B2l := B2.lt
  clear hb
  go_upto_region 7 with fail
  refine wp_absQ (fun W => Below w.heap.size w W ∧ Blk W w.heap.size #[.int .i64 cw, .int .i64 ch, .int .i64 sx, .int .i64 sy, .string st] 24 ∧ Blk W (w.heap.size + 1) #[.int .i64 cw, .int .i64 ch, .int .i64 x, .int .i64 y, .string tt] 24 ∧ Lib.IsBuilderF 70 5 wc.heap.size wc.heap.size (Lib.byteCells []) W) ⟨by (repeat (first | (with_reducible assumption) | (with_reducible exact Below.refl _ _) | with_reducible apply bl_drewN | with_reducible apply Below.drew | (with_reducible apply bl_alloc; focus (first | (simp; done) | (simp; omega) | omega)) | (with_reducible apply bl_set; focus (first | (simp; done) | (simp; omega) | omega)))), by (repeat (first | (with_reducible assumption) | (with_reducible apply Blk.new'; (first | (with_reducible rfl) | (simp; done))) | with_reducible apply Blk.alloc | with_reducible apply Blk.set | ((with_reducible apply Blk.set_ne); focus (first | (simp; done) | (simp; omega))) | with_reducible apply Blk.drewN | with_reducible apply Blk.drew)), by (repeat (first | (with_reducible assumption) | (with_reducible apply Blk.new'; (first | (with_reducible rfl) | (simp; done))) | with_reducible apply Blk.alloc | with_reducible apply Blk.set | ((with_reducible apply Blk.set_ne); focus (first | (simp; done) | (simp; omega))) | with_reducible apply Blk.drewN | with_reducible apply Blk.drew)), .of (Lib.fresh_isBuilder 70 5 wc)⟩ (fun W1 h5 => ?_)
  obtain ⟨b, hb⟩ : ∃ b, wc.heap.size = b := ⟨_, rfl⟩
  have hwb : w.heap.size + 1 < b := by rw [← hb]; exact B2.lt
  rw [hb] at h5 ⊢
  clear hb B1 B2 B2c B2l HB HBs
  obtain ⟨HB1, B1, B2, BD⟩ := h5
  have HB1s := HB1.size
  obtain ⟨q2, hq2⟩ : ∃ r : ByteArray, r = ⟨#[UInt8.ofNat x, UInt8.ofNat y]⟩ := ⟨_, rfl⟩
  have hcv : (convert 34 9 (.slice (some ⟨W1.heap.size, 0, none⟩) 2 2)).run Try.prog (W1.alloc (.cells #[.int .u8 x, .int .u8 y] 5)) = .ok (.string q2) (W1.alloc (.cells #[.int .u8 x, .int .u8 y] 5)) := by
    rw [hq2]
    exact Lib.run_convert_whole (P := Try.prog) _ 34 5 9 Try.underlying34 Try.underlying5 Try.underlying9 W1.heap.size 0 _ (row_bytes (row_two (by omega) (by omega) (by (repeat (first | (with_reducible assumption) | (with_reducible apply Blk.new'; (first | (with_reducible rfl) | (simp; done))) | with_reducible apply Blk.alloc | with_reducible apply Blk.set | ((with_reducible apply Blk.set_ne); focus (first | (simp; done) | (simp; omega))) | with_reducible apply Blk.drewN | with_reducible apply Blk.drew))))) 2
  obtain ⟨q3, hq3⟩ : ∃ r : ByteArray, ⟨#[100]⟩ ++ q2 = r := ⟨_, rfl⟩
  have radd : ∀ W, (Op.stringOp .add ⟨#[100]⟩ q2).run Try.prog W = .ok (.string q3) W := fun W => by rw [← hq3]; exact run_string_add_sum W _ _ (by rw [hq2]; show 1 + 2 ≤ _; omega)
  have hq3l : q3.data.toList = [100, UInt8.ofNat x, UInt8.ofNat y] := by rw [← hq3, ba_app, hq2]; rfl
  have HQ3 := Lib.hid hq3l
  clear hq2 hq3 hq3l
  have hb1 : W1.heap.size ≤ W1.heap.size := Nat.le_refl _
  go_wp2_with fail
  refine (wstr b [] q3 _ (isb_below BD (by (repeat (first | (with_reducible assumption) | (with_reducible exact Below.refl _ _) | with_reducible apply bl_drewN | with_reducible apply Below.drew | (with_reducible apply bl_alloc; focus (first | (simp; done) | (simp; omega) | omega)) | (with_reducible apply bl_set; focus (first | (simp; done) | (simp; omega) | omega)))))) (by show 0 + q3.data.toList.length ≤ _; rw [HQ3.out]; simp)).mono ?_
  rintro e W2 ⟨v2, rfl, BD2, hb2, hk2⟩
  have HB2 : Below w.heap.size w W2 := Below.via (b := b) (by (repeat (first | (with_reducible assumption) | (with_reducible exact Below.refl _ _) | with_reducible apply bl_drewN | with_reducible apply Below.drew | (with_reducible apply bl_alloc; focus (first | (simp; done) | (simp; omega) | omega)) | (with_reducible apply bl_set; focus (first | (simp; done) | (simp; omega) | omega))))) hb2 (by omega)
  have B12 : Blk W2 w.heap.size _ 24 := Blk.kept (by (repeat (first | (with_reducible assumption) | (with_reducible apply Blk.new'; (first | (with_reducible rfl) | (simp; done))) | with_reducible apply Blk.alloc | with_reducible apply Blk.set | ((with_reducible apply Blk.set_ne); focus (first | (simp; done) | (simp; omega))) | with_reducible apply Blk.drewN | with_reducible apply Blk.drew))) hk2 (by omega) (by decide)
  have B22 : Blk W2 (w.heap.size + 1) _ 24 := Blk.kept (by (repeat (first | (with_reducible assumption) | (with_reducible apply Blk.new'; (first | (with_reducible rfl) | (simp; done))) | with_reducible apply Blk.alloc | with_reducible apply Blk.set | ((with_reducible apply Blk.set_ne); focus (first | (simp; done) | (simp; omega))) | with_reducible apply Blk.drewN | with_reducible apply Blk.drew))) hk2 (by omega) (by decide)
  have HB2s := HB2.size
  clear hcv radd BD B1 B2 HB1 HB1s hb2 hk2 hb1
  have B22c := B22.cell; have B22l := B22.lt
  go_wp2_with fail
  refine (rows_any _ _ _ _ tt _ HTZ.out w2 h2).mono ?_
  rintro e W3 ⟨vr, rfl, hr, hb3⟩
  obtain ⟨gb, cb, rfl, hgb0, RB⟩ := own_rowsB hr h1
  have HB3 := Below.thn HB2 hb3 HB2s
  have BD3 := isb_below BD2 hb3
  have B13 := B12.below hb3
  have HB3s := HB3.size
  have hgb : gb ≠ b := by have := isb_lt BD2; omega
  clear hr hb3 HB2 HB2s BD2 B12 B22 B22c B22l hgb0
  have B13c := B13.cell; have B13l := B13.lt
  go_wp2_with fail
  refine (rows_any _ _ _ _ st _ HSZ.out w2 h2).mono ?_
  rintro e W4 ⟨vr, rfl, hr, hb4⟩
  obtain ⟨ga, ca, rfl, hga0, RA⟩ := own_rowsB hr h1
  have HB4 := Below.thn HB3 hb4 HB3s
  have BD4 := isb_below BD3 hb4
  have RB4 := RB.below hb4
  have HB4s := HB4.size
  have hga : ga ≠ b := by have := isb_lt BD3; omega
  clear hr hb4 HB3 HB3s BD3 B13 B13c B13l hga0 RB
  go_wp2_with fail
  go_loopg [56] ch (fun g t56 wr => ∃ (j : Nat) (out : List UInt8), t56 = .int .i64 j ∧ j + g = ch ∧ Lib.IsBuilderF 70 5 b b (Lib.byteCells out) wr ∧ out ++ encF cw sb tb j g = TOT ∧ Below w.heap.size w wr ∧ RowsB wr ga (rowsL st cw ch) ∧ RowsB wr gb (rowsL tt cw ch))
  case atStart => exact ⟨0, _, rfl, by omega, BD4, by rw [HQ3.out]; exact HOF.out.symm, HB4, RA, RB4⟩
  case round =>
    clear HB4 HB4s BD4 RA RB4
    obtain ⟨j, out, rfl, hj, BD, hout, HB, RA, RB⟩ := hrel
    have HBs := HB.size
    have HJ := Lib.hid hj
    cases gk with
    | zero =>
      have hj' : ¬ (j : Int) < ch := by omega
      have he : out = TOT := by rw [← hout]; simp [encF]
      subst he
      clear hj hout
      go_wp2_with fail
      refine (bstr b _ _ BD).mono ?_
      rintro e W9 ⟨rfl, hb9⟩
      have HB9 := Below.via (b := b) HB hb9 (by omega)
      go_wp2_with fail
      go_ret
      exact ⟨rfl, HB9⟩
    | succ g =>
      have hj' : (j : Int) < ch := by omega
      have hjl : j < ch := by omega
      clear hj
      obtain ⟨ra, hra⟩ : ∃ r, st.extract (j * cw) ((j + 1) * cw) = r := ⟨_, rfl⟩
      obtain ⟨rb, hrb⟩ : ∃ r, tt.extract (j * cw) ((j + 1) * cw) = r := ⟨_, rfl⟩
      have hcell : wr.cell? ⟨ga, j, none⟩ = some (Value.string ra) := by rw [RA.cell j (by rw [rowsL_length]; exact hjl), rowsL_get _ _ _ _ hjl, hra]
      have hral : ra.data.toList = rowOf sb cw j := by rw [← hra, ← HST.out.1, rowOf_txt]
      have hrbl : rb.data.toList = rowOf tb cw j := by rw [← hrb, ← HST.out.2, rowOf_txt]
      have hras : ra.size = cw := by show ra.data.toList.length = cw; rw [hral]; exact rowOf_len HSL.out hjl
      have hrbs : rb.size = cw := by show rb.data.toList.length = cw; rw [hrbl]; exact rowOf_len HTL.out hjl
      have hal := RA.lt
      have hcb : ∀ W, RowsB W gb (rowsL tt cw ch) → W.cell? ⟨gb, j, none⟩ = some (Value.string rb) := fun W h => by rw [h.cell j (by rw [rowsL_length]; exact hjl), rowsL_get _ _ _ _ hjl, hrb]
      rw [encF, ← hral, ← hrbl] at hout
      obtain ⟨REST, hREST⟩ : ∃ R, encF cw sb tb (j + 1) g = R := ⟨_, rfl⟩
      rw [hREST] at hout
      have HREST := Lib.hid hREST
      have HCB := Lib.hid hcb
      have HRS := Lib.hid (And.intro hras hrbs)
      clear hra hrb hral hrbl hcb hREST hras hrbs
      go_wp2_with fail
      go_loopg [15] cw (fun g2 t15 wx => ∃ (k : Nat) (o2 : List UInt8), t15 = .int .i64 k ∧ g2 = cw - k ∧ k ≤ cw + 1 ∧ Lib.IsBuilderF 70 5 b b (Lib.byteCells o2) wx ∧ o2 ++ (encR j k ra.data.toList rb.data.toList (cw - k) ++ REST) = TOT ∧ Below w.heap.size w wx ∧ RowsB wx ga (rowsL st cw ch) ∧ RowsB wx gb (rowsL tt cw ch))
      case atStart => exact ⟨0, out, rfl, by omega, by omega, BD, hout, HB, RA, RB⟩
      case round =>
        clear HB HBs BD RA RB hout hcell hal
        obtain ⟨kc, o2, rfl, hg2, hk, BD, hout, HB, RA, RB⟩ := hrel
        have HBs := HB.size
        have HG := Lib.hid hg2
        by_cases hkc : (kc : Int) < cw
        · have hkl : kc < cw := by omega
          have hka : (kc : Int) ≤ ra.size := by rw [HRS.out.1]; omega
          have hkb : (kc : Int) ≤ rb.size := by rw [HRS.out.2]; omega
          obtain ⟨m, hm⟩ : ∃ m, cw - kc = m + 1 := ⟨cw - kc - 1, by omega⟩
          obtain ⟨n, hn⟩ : ∃ n, runL (ra.data.toList.drop kc) (rb.data.toList.drop kc) = n := ⟨_, rfl⟩
          have hrl : ∀ r : ByteArray, (r.extract kc r.size).data.toList = r.data.toList.drop kc := fun r => by
            rw [ba_extract, List.take_of_length_le]; rw [List.length_drop]; exact Nat.le_refl _
          have hnle : n ≤ m + 1 := by
            have := (runL_le (ra.data.toList.drop kc) (rb.data.toList.drop kc)).1
            rw [hn, List.length_drop] at this
            have h6 : ra.data.toList.length = cw := HRS.out.1
            omega
          have cRun : ∀ W, Calls Try.prog 42 #[.string (ra.extract kc ra.size), .string (rb.extract kc rb.size)] W fun e w' => e = .returned (.int .i64 n) ∧ Below W.heap.size W w' := fun W => by
            have h6 := run_any (ra.extract kc ra.size) (rb.extract kc rb.size) W (by rw [ByteArray.size_extract, ByteArray.size_extract, HRS.out.1, HRS.out.2]) (by rw [ByteArray.size_extract, HRS.out.1]; omega)
            rw [hrl, hrl, hn] at h6
            exact h6
          have CRUN := Lib.hid cRun
          rw [hm] at hout
          have HNM := Lib.hid (And.intro hm hnle)
          have HRUN := Lib.hid hn
          have hgl := RB.lt
          have hcellb := HCB.out _ RB
          clear hg2 hm hn hrl cRun hnle
          go_wp2_with fail
          refine wp_region_typed 10 (fun k => match k with  | _ => []) (fun k => match k with  | _ => false) (fun k => match k with | 9 => some ⟨(Unit), (()), (fun _ => .int .i64 n), (fun _ _ => True), (fun _ _ _ h _ => h)⟩ | _ => none) (by kernel_rfl) (by kernel_rfl) (by intro d0 v0 c0 a0 w0 h0; cases d0 <;> exact h0) ?_
          rw [show List.range 10 = [0, 1, 2, 3, 4, 5, 6, 7, 8, 9] from rfl]
          first
            | (refine ty_skip rfl rfl ?_; (try simp only [Act.put, List.setIfInBounds_toArray, List.set_cons_zero, List.set_cons_succ]))
            | (refine ty_pure rfl rfl rfl rfl ?_; apply Exists.intro; refine ⟨fun wq hq hk => ?_, ?_⟩
               · have f0 := hq.cell hcellb; simp only [pureAt]; go_simp; (try simp only [↓IntWalk.iteOmega]); (try go_bits); (try simp only [pureUpon]); (first | done | exact ⟨rfl, rfl⟩ | exact ⟨trivial, rfl⟩ | rfl)
               (try simp only [Act.put, List.setIfInBounds_toArray, List.set_cons_zero, List.set_cons_succ]))
          first
            | (refine ty_skip rfl rfl ?_; (try simp only [Act.put, List.setIfInBounds_toArray, List.set_cons_zero, List.set_cons_succ]))
            | (refine ty_pure rfl rfl rfl rfl ?_; apply Exists.intro; refine ⟨fun wq hq hk => ?_, ?_⟩
               · have f0 := hq.cell hcellb; simp only [pureAt]; go_simp; (try simp only [↓IntWalk.iteOmega]); (try go_bits); (try simp only [pureUpon]); (first | done | exact ⟨rfl, rfl⟩ | exact ⟨trivial, rfl⟩ | rfl)
               (try simp only [Act.put, List.setIfInBounds_toArray, List.set_cons_zero, List.set_cons_succ]))
          first
            | (refine ty_skip rfl rfl ?_; (try simp only [Act.put, List.setIfInBounds_toArray, List.set_cons_zero, List.set_cons_succ]))
            | (refine ty_pure rfl rfl rfl rfl ?_; apply Exists.intro; refine ⟨fun wq hq hk => ?_, ?_⟩
               · have f0 := hq.cell hcellb; simp only [pureAt]; go_simp; (try simp only [↓IntWalk.iteOmega]); (try go_bits); (try simp only [pureUpon]); (first | done | exact ⟨rfl, rfl⟩ | exact ⟨trivial, rfl⟩ | rfl)
               (try simp only [Act.put, List.setIfInBounds_toArray, List.set_cons_zero, List.set_cons_succ]))
          first
            | (refine ty_skip rfl rfl ?_; (try simp only [Act.put, List.setIfInBounds_toArray, List.set_cons_zero, List.set_cons_succ]))
            | (refine ty_pure rfl rfl rfl rfl ?_; apply Exists.intro; refine ⟨fun wq hq hk => ?_, ?_⟩
               · have f0 := hq.cell hcellb; simp only [pureAt]; go_simp; (try simp only [↓IntWalk.iteOmega]); (try go_bits); (try simp only [pureUpon]); (first | done | exact ⟨rfl, rfl⟩ | exact ⟨trivial, rfl⟩ | rfl)
               (try simp only [Act.put, List.setIfInBounds_toArray, List.set_cons_zero, List.set_cons_succ]))
          first
            | (refine ty_skip rfl rfl ?_; (try simp only [Act.put, List.setIfInBounds_toArray, List.set_cons_zero, List.set_cons_succ]))
            | (refine ty_pure rfl rfl rfl rfl ?_; apply Exists.intro; refine ⟨fun wq hq hk => ?_, ?_⟩
               · have f0 := hq.cell hcellb; simp only [pureAt]; go_simp; (try simp only [↓IntWalk.iteOmega]); (try go_bits); (try simp only [pureUpon]); (first | done | exact ⟨rfl, rfl⟩ | exact ⟨trivial, rfl⟩ | rfl)
               (try simp only [Act.put, List.setIfInBounds_toArray, List.set_cons_zero, List.set_cons_succ]))
          first
            | (refine ty_skip rfl rfl ?_; (try simp only [Act.put, List.setIfInBounds_toArray, List.set_cons_zero, List.set_cons_succ]))
            | (refine ty_pure rfl rfl rfl rfl ?_; apply Exists.intro; refine ⟨fun wq hq hk => ?_, ?_⟩
               · have f0 := hq.cell hcellb; simp only [pureAt]; go_simp; (try simp only [↓IntWalk.iteOmega]); (try go_bits); (try simp only [pureUpon]); (first | done | exact ⟨rfl, rfl⟩ | exact ⟨trivial, rfl⟩ | rfl)
               (try simp only [Act.put, List.setIfInBounds_toArray, List.set_cons_zero, List.set_cons_succ]))
          first
            | (refine ty_skip rfl rfl ?_; (try simp only [Act.put, List.setIfInBounds_toArray, List.set_cons_zero, List.set_cons_succ]))
            | (refine ty_pure rfl rfl rfl rfl ?_; apply Exists.intro; refine ⟨fun wq hq hk => ?_, ?_⟩
               · have f0 := hq.cell hcellb; simp only [pureAt]; go_simp; (try simp only [↓IntWalk.iteOmega]); (try go_bits); (try simp only [pureUpon]); (first | done | exact ⟨rfl, rfl⟩ | exact ⟨trivial, rfl⟩ | rfl)
               (try simp only [Act.put, List.setIfInBounds_toArray, List.set_cons_zero, List.set_cons_succ]))
          first
            | (refine ty_skip rfl rfl ?_; (try simp only [Act.put, List.setIfInBounds_toArray, List.set_cons_zero, List.set_cons_succ]))
            | (refine ty_pure rfl rfl rfl rfl ?_; apply Exists.intro; refine ⟨fun wq hq hk => ?_, ?_⟩
               · have f0 := hq.cell hcellb; simp only [pureAt]; go_simp; (try simp only [↓IntWalk.iteOmega]); (try go_bits); (try simp only [pureUpon]); (first | done | exact ⟨rfl, rfl⟩ | exact ⟨trivial, rfl⟩ | rfl)
               (try simp only [Act.put, List.setIfInBounds_toArray, List.set_cons_zero, List.set_cons_succ]))
          first
            | (refine ty_skip rfl rfl ?_; (try simp only [Act.put, List.setIfInBounds_toArray, List.set_cons_zero, List.set_cons_succ]))
            | (refine ty_pure rfl rfl rfl rfl ?_; apply Exists.intro; refine ⟨fun wq hq hk => ?_, ?_⟩
               · have f0 := hq.cell hcellb; simp only [pureAt]; go_simp; (try simp only [↓IntWalk.iteOmega]); (try go_bits); (try simp only [pureUpon]); (first | done | exact ⟨rfl, rfl⟩ | exact ⟨trivial, rfl⟩ | rfl)
               (try simp only [Act.put, List.setIfInBounds_toArray, List.set_cons_zero, List.set_cons_succ]))
          refine ty_rel rfl rfl _ rfl rfl (fun wq hq hk => ?_) ?_
          · have f0 := hq.cell hcellb; simp only [relAt]; go_simp; (try simp only [relUpon]); (go_at_call 42; refine (CRUN.out _).mono ?_; rintro e w9 ⟨rfl, hb9⟩; exact ⟨_, rfl, .mk hb9 () rfl trivial⟩)
          rintro ⟨⟩
          (try simp only [Act.put, List.setIfInBounds_toArray, List.set_cons_zero, List.set_cons_succ])
          refine ty_nil ?_
          simp only [List.drop_succ_cons, List.drop_zero]
          intro W8 hw8 hΓ
          have HB8 := Below.thn HB hw8.out HBs
          have BD8 := isb_below BD hw8.out
          have RA8 := RA.below hw8.out
          have RB8 := RB.below hw8.out
          have HB8s := HB8.size
          clear hΓ hw8 HB HBs BD RA RB hcellb hgl
          by_cases h0 : n = 0
          · subst h0
            rw [encR_same _ _ _ _ _ HRUN.out] at hout
            have HOUT := Lib.hid hout
            clear hout
            go_wp2_with fail
            go_roundg (cw - (kc + 1))
            case rel => exact ⟨kc + 1, o2, by simp, rfl, by omega, BD8, by rw [show cw - (kc + 1) = m by have := HNM.out.1; omega]; exact HOUT.out, HB8, RA8, RB8⟩
            case measure => have := HNM.out.1; have := HG.out; omega
          · have h0i : ¬ (n : Int) = 0 := by omega
            rw [encR_run _ _ _ _ _ _ HRUN.out h0] at hout
            have hnc : kc + n ≤ cw := by have := HNM.out; omega
            have hn255 : n ≤ 255 := by omega
            have hk255 : kc ≤ 255 := by omega
            have hj255 : j ≤ 255 := by omega
            have hkn : (kc : Int) ≤ (kc : Int) + n := by omega
            have hknb : (kc : Int) + n ≤ rb.size := by rw [HRS.out.2]; omega
            obtain ⟨q, hq⟩ : ∃ r : ByteArray, r = ⟨#[UInt8.ofNat j, UInt8.ofNat kc, UInt8.ofNat n]⟩ := ⟨_, rfl⟩
            have hcv : ∀ (W : World) (b : Nat), Blk W b #[.int .u8 j, .int .u8 kc, .int .u8 n] 5 → (convert 34 9 (.slice (some ⟨b, 0, none⟩) 3 3)).run Try.prog W = .ok (.string q) W := fun W b B => by
              rw [hq]
              exact Lib.run_convert_whole (P := Try.prog) W 34 5 9 Try.underlying34 Try.underlying5 Try.underlying9 b 0 _ (row_bytes (row_three (by omega) (by omega) (by omega) B)) 3
            obtain ⟨q4, hq4⟩ : ∃ r, q ++ rb.extract kc (kc + n) = r := ⟨_, rfl⟩
            have hq4l : q4.data.toList = [UInt8.ofNat j, UInt8.ofNat kc, UInt8.ofNat n] ++ (rb.data.toList.drop kc).take n := by
              rw [← hq4, ba_app, hq, ba_extract, Nat.add_sub_cancel_left]
            have radd : ∀ W, (Op.stringOp .add q (rb.extract kc (kc + n))).run Try.prog W = .ok (.string q4) W := fun W => by
              rw [← hq4]; exact run_string_add_sum W _ _ (by rw [ByteArray.size_extract, hq, HRS.out.2]; show 3 + _ ≤ _; omega)
            rw [← hq4l] at hout
            have hol : o2.length + q4.size ≤ 1000000 := by
              have h6 : TOT.length ≤ 8000 := HL.out
              rw [← hout] at h6
              have h7 : q4.data.toList.length = q4.size := rfl
              simp only [List.length_append] at h6
              omega
            have HCV := Lib.hid hcv
            have RADD := Lib.hid radd
            have HOUT := Lib.hid hout
            have hcellb := HCB.out _ RB8
            have hgl := RB8.lt
            clear hcv radd hq hq4 hq4l hout
            go_wp2_with fail
            refine wp_region_typed 18 (fun k => match k with | 7 => [6] | _ => []) (fun k => match k with  | _ => false) (fun k => match k with | 6 => some ⟨(Nat), (0), (fun b => .slice (some ⟨b, 0, none⟩) 3 3), (fun b w => Blk w b #[.int .u8 j, .int .u8 kc, .int .u8 n] 5), (fun b w w' h hb => h.below hb)⟩ | 7 => some ⟨(Unit), (()), (fun _ => .string q), (fun _ _ => True), (fun _ _ _ h _ => h)⟩ | 17 => some ⟨(Unit), (()), (fun _ => .string q4), (fun _ _ => True), (fun _ _ _ h _ => h)⟩ | _ => none) (by kernel_rfl) (by kernel_rfl) (by intro d0 v0 c0 a0 w0 h0; cases d0 <;> exact h0) ?_
            rw [show List.range 18 = [0, 1, 2, 3, 4, 5, 6, 7, 8, 9, 10, 11, 12, 13, 14, 15, 16, 17] from rfl]
            first
              | (refine ty_skip rfl rfl ?_; (try simp only [Act.put, List.setIfInBounds_toArray, List.set_cons_zero, List.set_cons_succ]))
              | (refine ty_pure rfl rfl rfl rfl ?_; apply Exists.intro; refine ⟨fun wq hq hk => ?_, ?_⟩
                 · have f0 := hq.cell hcellb; simp only [pureAt]; go_simp; (try simp only [↓IntWalk.iteOmega]); (try go_bits); (try simp only [pureUpon]); (first | done | exact ⟨rfl, rfl⟩ | exact ⟨trivial, rfl⟩ | rfl)
                 (try simp only [Act.put, List.setIfInBounds_toArray, List.set_cons_zero, List.set_cons_succ]))
            first
              | (refine ty_skip rfl rfl ?_; (try simp only [Act.put, List.setIfInBounds_toArray, List.set_cons_zero, List.set_cons_succ]))
              | (refine ty_pure rfl rfl rfl rfl ?_; apply Exists.intro; refine ⟨fun wq hq hk => ?_, ?_⟩
                 · have f0 := hq.cell hcellb; simp only [pureAt]; go_simp; (try simp only [↓IntWalk.iteOmega]); (try go_bits); (try simp only [pureUpon]); (first | done | exact ⟨rfl, rfl⟩ | exact ⟨trivial, rfl⟩ | rfl)
                 (try simp only [Act.put, List.setIfInBounds_toArray, List.set_cons_zero, List.set_cons_succ]))
            first
              | (refine ty_skip rfl rfl ?_; (try simp only [Act.put, List.setIfInBounds_toArray, List.set_cons_zero, List.set_cons_succ]))
              | (refine ty_pure rfl rfl rfl rfl ?_; apply Exists.intro; refine ⟨fun wq hq hk => ?_, ?_⟩
                 · have f0 := hq.cell hcellb; simp only [pureAt]; go_simp; (try simp only [↓IntWalk.iteOmega]); (try go_bits); (try simp only [pureUpon]); (first | done | exact ⟨rfl, rfl⟩ | exact ⟨trivial, rfl⟩ | rfl)
                 (try simp only [Act.put, List.setIfInBounds_toArray, List.set_cons_zero, List.set_cons_succ]))
            first
              | (refine ty_skip rfl rfl ?_; (try simp only [Act.put, List.setIfInBounds_toArray, List.set_cons_zero, List.set_cons_succ]))
              | (refine ty_pure rfl rfl rfl rfl ?_; apply Exists.intro; refine ⟨fun wq hq hk => ?_, ?_⟩
                 · have f0 := hq.cell hcellb; simp only [pureAt]; go_simp; (try simp only [↓IntWalk.iteOmega]); (try go_bits); (try simp only [pureUpon]); (first | done | exact ⟨rfl, rfl⟩ | exact ⟨trivial, rfl⟩ | rfl)
                 (try simp only [Act.put, List.setIfInBounds_toArray, List.set_cons_zero, List.set_cons_succ]))
            first
              | (refine ty_skip rfl rfl ?_; (try simp only [Act.put, List.setIfInBounds_toArray, List.set_cons_zero, List.set_cons_succ]))
              | (refine ty_pure rfl rfl rfl rfl ?_; apply Exists.intro; refine ⟨fun wq hq hk => ?_, ?_⟩
                 · have f0 := hq.cell hcellb; simp only [pureAt]; go_simp; (try simp only [↓IntWalk.iteOmega]); (try go_bits); (try simp only [pureUpon]); (first | done | exact ⟨rfl, rfl⟩ | exact ⟨trivial, rfl⟩ | rfl)
                 (try simp only [Act.put, List.setIfInBounds_toArray, List.set_cons_zero, List.set_cons_succ]))
            first
              | (refine ty_skip rfl rfl ?_; (try simp only [Act.put, List.setIfInBounds_toArray, List.set_cons_zero, List.set_cons_succ]))
              | (refine ty_pure rfl rfl rfl rfl ?_; apply Exists.intro; refine ⟨fun wq hq hk => ?_, ?_⟩
                 · have f0 := hq.cell hcellb; simp only [pureAt]; go_simp; (try simp only [↓IntWalk.iteOmega]); (try go_bits); (try simp only [pureUpon]); (first | done | exact ⟨rfl, rfl⟩ | exact ⟨trivial, rfl⟩ | rfl)
                 (try simp only [Act.put, List.setIfInBounds_toArray, List.set_cons_zero, List.set_cons_succ]))
            refine ty_rel rfl rfl _ rfl rfl (fun wq hq hk => ?_) ?_
            · have f0 := hq.cell hcellb; simp only [relAt]; go_simp; (try simp only [relUpon]); exact .mk ((Below.refl _ _).alloc (Nat.le_refl _) _) wq.heap.size rfl (Blk.new wq _ _)
            rintro (b6 : Nat)
            (try simp only [Act.put, List.setIfInBounds_toArray, List.set_cons_zero, List.set_cons_succ])
            refine ty_rel rfl rfl _ rfl rfl (fun wq hq hk => ?_) ?_
            · have f0 := hq.cell hcellb; have hr := hk _ (.head _) rfl; have hc5 := HCV.out wq _ hr; simp only [relAt]; go_simp; (try simp only [relUpon]); exact .mk (Below.refl _ _) () rfl trivial
            rintro ⟨⟩
            (try simp only [Act.put, List.setIfInBounds_toArray, List.set_cons_zero, List.set_cons_succ])
            first
              | (refine ty_skip rfl rfl ?_; (try simp only [Act.put, List.setIfInBounds_toArray, List.set_cons_zero, List.set_cons_succ]))
              | (refine ty_pure rfl rfl rfl rfl ?_; apply Exists.intro; refine ⟨fun wq hq hk => ?_, ?_⟩
                 · have f0 := hq.cell hcellb; simp only [pureAt]; go_simp; (try simp only [↓IntWalk.iteOmega]); (try go_bits); (try simp only [pureUpon]); (first | done | exact ⟨rfl, rfl⟩ | exact ⟨trivial, rfl⟩ | rfl)
                 (try simp only [Act.put, List.setIfInBounds_toArray, List.set_cons_zero, List.set_cons_succ]))
            first
              | (refine ty_skip rfl rfl ?_; (try simp only [Act.put, List.setIfInBounds_toArray, List.set_cons_zero, List.set_cons_succ]))
              | (refine ty_pure rfl rfl rfl rfl ?_; apply Exists.intro; refine ⟨fun wq hq hk => ?_, ?_⟩
                 · have f0 := hq.cell hcellb; simp only [pureAt]; go_simp; (try simp only [↓IntWalk.iteOmega]); (try go_bits); (try simp only [pureUpon]); (first | done | exact ⟨rfl, rfl⟩ | exact ⟨trivial, rfl⟩ | rfl)
                 (try simp only [Act.put, List.setIfInBounds_toArray, List.set_cons_zero, List.set_cons_succ]))
            first
              | (refine ty_skip rfl rfl ?_; (try simp only [Act.put, List.setIfInBounds_toArray, List.set_cons_zero, List.set_cons_succ]))
              | (refine ty_pure rfl rfl rfl rfl ?_; apply Exists.intro; refine ⟨fun wq hq hk => ?_, ?_⟩
                 · have f0 := hq.cell hcellb; simp only [pureAt]; go_simp; (try simp only [↓IntWalk.iteOmega]); (try go_bits); (try simp only [pureUpon]); (first | done | exact ⟨rfl, rfl⟩ | exact ⟨trivial, rfl⟩ | rfl)
                 (try simp only [Act.put, List.setIfInBounds_toArray, List.set_cons_zero, List.set_cons_succ]))
            first
              | (refine ty_skip rfl rfl ?_; (try simp only [Act.put, List.setIfInBounds_toArray, List.set_cons_zero, List.set_cons_succ]))
              | (refine ty_pure rfl rfl rfl rfl ?_; apply Exists.intro; refine ⟨fun wq hq hk => ?_, ?_⟩
                 · have f0 := hq.cell hcellb; simp only [pureAt]; go_simp; (try simp only [↓IntWalk.iteOmega]); (try go_bits); (try simp only [pureUpon]); (first | done | exact ⟨rfl, rfl⟩ | exact ⟨trivial, rfl⟩ | rfl)
                 (try simp only [Act.put, List.setIfInBounds_toArray, List.set_cons_zero, List.set_cons_succ]))
            first
              | (refine ty_skip rfl rfl ?_; (try simp only [Act.put, List.setIfInBounds_toArray, List.set_cons_zero, List.set_cons_succ]))
              | (refine ty_pure rfl rfl rfl rfl ?_; apply Exists.intro; refine ⟨fun wq hq hk => ?_, ?_⟩
                 · have f0 := hq.cell hcellb; simp only [pureAt]; go_simp; (try simp only [↓IntWalk.iteOmega]); (try go_bits); (try simp only [pureUpon]); (first | done | exact ⟨rfl, rfl⟩ | exact ⟨trivial, rfl⟩ | rfl)
                 (try simp only [Act.put, List.setIfInBounds_toArray, List.set_cons_zero, List.set_cons_succ]))
            first
              | (refine ty_skip rfl rfl ?_; (try simp only [Act.put, List.setIfInBounds_toArray, List.set_cons_zero, List.set_cons_succ]))
              | (refine ty_pure rfl rfl rfl rfl ?_; apply Exists.intro; refine ⟨fun wq hq hk => ?_, ?_⟩
                 · have f0 := hq.cell hcellb; simp only [pureAt]; go_simp; (try simp only [↓IntWalk.iteOmega]); (try go_bits); (try simp only [pureUpon]); (first | done | exact ⟨rfl, rfl⟩ | exact ⟨trivial, rfl⟩ | rfl)
                 (try simp only [Act.put, List.setIfInBounds_toArray, List.set_cons_zero, List.set_cons_succ]))
            first
              | (refine ty_skip rfl rfl ?_; (try simp only [Act.put, List.setIfInBounds_toArray, List.set_cons_zero, List.set_cons_succ]))
              | (refine ty_pure rfl rfl rfl rfl ?_; apply Exists.intro; refine ⟨fun wq hq hk => ?_, ?_⟩
                 · have f0 := hq.cell hcellb; simp only [pureAt]; go_simp; (try simp only [↓IntWalk.iteOmega]); (try go_bits); (try simp only [pureUpon]); (first | done | exact ⟨rfl, rfl⟩ | exact ⟨trivial, rfl⟩ | rfl)
                 (try simp only [Act.put, List.setIfInBounds_toArray, List.set_cons_zero, List.set_cons_succ]))
            first
              | (refine ty_skip rfl rfl ?_; (try simp only [Act.put, List.setIfInBounds_toArray, List.set_cons_zero, List.set_cons_succ]))
              | (refine ty_pure rfl rfl rfl rfl ?_; apply Exists.intro; refine ⟨fun wq hq hk => ?_, ?_⟩
                 · have f0 := hq.cell hcellb; simp only [pureAt]; go_simp; (try simp only [↓IntWalk.iteOmega]); (try go_bits); (try simp only [pureUpon]); (first | done | exact ⟨rfl, rfl⟩ | exact ⟨trivial, rfl⟩ | rfl)
                 (try simp only [Act.put, List.setIfInBounds_toArray, List.set_cons_zero, List.set_cons_succ]))
            first
              | (refine ty_skip rfl rfl ?_; (try simp only [Act.put, List.setIfInBounds_toArray, List.set_cons_zero, List.set_cons_succ]))
              | (refine ty_pure rfl rfl rfl rfl ?_; apply Exists.intro; refine ⟨fun wq hq hk => ?_, ?_⟩
                 · have f0 := hq.cell hcellb; simp only [pureAt]; go_simp; (try simp only [↓IntWalk.iteOmega]); (try go_bits); (try simp only [pureUpon]); (first | done | exact ⟨rfl, rfl⟩ | exact ⟨trivial, rfl⟩ | rfl)
                 (try simp only [Act.put, List.setIfInBounds_toArray, List.set_cons_zero, List.set_cons_succ]))
            refine ty_rel rfl rfl _ rfl rfl (fun wq hq hk => ?_) ?_
            · have f0 := hq.cell hcellb; have ra5 := RADD.out wq; simp only [relAt]; go_simp; (try simp only [relUpon]); exact .mk (Below.refl _ _) () rfl trivial
            rintro ⟨⟩
            (try simp only [Act.put, List.setIfInBounds_toArray, List.set_cons_zero, List.set_cons_succ])
            refine ty_nil ?_
            simp only [List.drop_succ_cons, List.drop_zero]
            intro W10 hw10 hΓ
            have HB10 := Below.thn HB8 hw10.out HB8s
            have BD10 := isb_below BD8 hw10.out
            have RA10 := RA8.below hw10.out
            have RB10 := RB8.below hw10.out
            clear hΓ hw10 HB8 HB8s BD8 RA8 RB8 hcellb hgl
            go_wp2_with fail
            refine (wstr b o2 q4 _ BD10 hol).mono ?_
            rintro e W11 ⟨v11, rfl, BD11, hb11, hk11⟩
            have HB11 : Below w.heap.size w W11 := Below.via (b := b) HB10 hb11 (by omega)
            have RA11 := RA10.kept hk11 hga
            have RB11 := RB10.kept hk11 hgb
            have HB11s := HB11.size
            clear hb11 hk11 HB10 BD10 RA10 RB10
            go_wp2_with fail
            go_roundg (cw - (kc + n + 1))
            case rel => exact ⟨kc + n + 1, _, by simp, rfl, by omega, BD11, by rw [show cw - (kc + n + 1) = m - n by have := HNM.out.1; omega, List.append_assoc]; have h9 := HOUT.out; simp only [List.append_assoc] at h9; exact h9, HB11, RA11, RB11⟩
            case measure => have := HNM.out.1; have := HG.out; omega
        · have he : cw - kc = 0 := by omega
          rw [he, encR_zero, List.nil_append] at hout
          have HOUT := Lib.hid hout
          clear hout hg2 he
          go_wp2_with fail
          go_roundg g
          case rel => exact ⟨j + 1, o2, by simp, by have := HJ.out; omega, BD, by rw [HREST.out]; exact HOUT.out, HB, RA, RB⟩
          case measure => omega
end Go.Proofs.Ytgdmeaoghhkknaa
