/- Package screen: Put. -/
import Derived.Test.YtgdmeaoghhkknaaScr1
import Derived.Test.YtgdmeaoghhkknaaBRow
import Derived.WalkMore
import Derived.Test.YtgdmeaoghhkknaaLawKit
namespace Go.Proofs.Ytgdmeaoghhkknaa
open Go.RowKit

theorem wp_absQ {P : Program} {c : Code} {Q : Exit → Act → World → Prop} {a : Act} {E : World} (Φ : World → Prop) (hΦ : Φ E) (h : ∀ W, Φ W → c.wp P Q a W) : c.wp P Q a E := h _ hΦ
abbrev zs24 : Array Value := #[.int .i64 0, .int .i64 0, .int .i64 0, .int .i64 0, .string ⟨#[]⟩]
/-- The round's state. -/
structure PAt (w wr : World) (A R g cw ch x y : Nat) (t0 : ByteArray) (b : List UInt8) : Prop where
  BA : Blk wr A #[.int .i64 cw, .int .i64 ch, .int .i64 x, .int .i64 y, .string t0] 24
  BR : Blk wr R zs24 24
  row : BRow wr g b
  gA : g ≠ A
  gR : g ≠ R
  AR : A ≠ R
  HB : Below w.heap.size w wr
  g0 : w.heap.size ≤ g
  A0 : w.heap.size ≤ A
  R0 : w.heap.size ≤ R
theorem PAt.below {w wr w' : World} {A R g cw ch x y : Nat} {t0 : ByteArray} {b : List UInt8} (h : PAt w wr A R g cw ch x y t0 b) (hb : Below wr.heap.size wr w') : PAt w w' A R g cw ch x y t0 b :=
  ⟨h.BA.below hb, h.BR.below hb, h.row.below hb, h.gA, h.gR, h.AR, Below.thn h.HB hb h.HB.size, h.g0, h.A0, h.R0⟩
theorem PAt.setX {w wr : World} {A R g cw ch x y : Nat} {t0 : ByteArray} {b : List UInt8} (h : PAt w wr A R g cw ch x y t0 b) (x' : Nat) : PAt w (wr.setCell ⟨A, 2, none⟩ (.int .i64 x')) A R g cw ch x' y t0 b :=
  ⟨h.BA.set.conv rfl, h.BR.set_ne h.AR.symm, h.row.set_ne h.gA _, h.gA, h.gR, h.AR, h.HB.setCell (p := ⟨A, 2, none⟩) h.A0 _, h.g0, h.A0, h.R0⟩
theorem PAt.setY {w wr : World} {A R g cw ch x y : Nat} {t0 : ByteArray} {b : List UInt8} (h : PAt w wr A R g cw ch x y t0 b) (y' : Nat) : PAt w (wr.setCell ⟨A, 3, none⟩ (.int .i64 y')) A R g cw ch x y' t0 b :=
  ⟨h.BA.set.conv rfl, h.BR.set_ne h.AR.symm, h.row.set_ne h.gA _, h.gA, h.gR, h.AR, h.HB.setCell (p := ⟨A, 3, none⟩) h.A0 _, h.g0, h.A0, h.R0⟩
theorem PAt.setB {w wr : World} {A R g cw ch x y : Nat} {t0 : ByteArray} {b : List UInt8} (h : PAt w wr A R g cw ch x y t0 b) {k : Nat} (hk : k < b.length) (c : UInt8) : PAt w (wr.setCell ⟨g, k, none⟩ (bval c)) A R g cw ch x y t0 (b.set k c) :=
  ⟨h.BA.set_ne h.gA.symm, h.BR.set_ne h.gR.symm, h.row.set hk c, h.gA, h.gR, h.AR, h.HB.setCell (p := ⟨g, k, none⟩) h.g0 _, h.g0, h.A0, h.R0⟩
theorem PAt.sets {w wr : World} {A R g cw ch x y : Nat} {t0 : ByteArray} {b : List UInt8} (h : PAt w wr A R g cw ch x y t0 b) (o : Nat) (l : List UInt8) (hl : o + l.length ≤ b.length) :
    PAt w (wr.setCells g o (l.map bval)) A R g cw ch x y t0 (b.take o ++ l ++ b.drop (o + l.length)) :=
  ⟨⟨(sets_keep h.gA.symm _ _ _).trans h.BA.out⟩, ⟨(sets_keep h.gR.symm _ _ _).trans h.BR.out⟩, h.row.sets o l hl, h.gA, h.gR, h.AR, sets_below h.g0 _ _ h.HB, h.g0, h.A0, h.R0⟩
theorem conv_any (t : ByteArray) : ∀ W, (convert 9 34 (.string t)).run Try.prog W = .ok (.slice (some ⟨W.heap.size, 0, none⟩) t.size (grownCap W t.size 0 5)) (Lib.bytesWorld W 5 t) := fun W =>
  Lib.run_convert_string_bytes W 9 34 5 t Try.underlying9 Try.underlying34 Try.underlying5

theorem scroll_row (b : List UInt8) (m cw : Nat) (h : b.length = m + cw) : (b.take 0 ++ b.drop cw ++ b.drop (0 + (b.drop cw).length)).take m ++ List.replicate cw 32 ++ (b.take 0 ++ b.drop cw ++ b.drop (0 + (b.drop cw).length)).drop (m + (List.replicate cw (32 : UInt8)).length) = b.drop cw ++ List.replicate cw 32 := by
  have hd : (b.drop cw).length = m := by simp; omega
  rw [List.take_zero, List.nil_append, hd, List.length_replicate]
  have e1 : (b.drop cw ++ b.drop (0 + m)).take m = b.drop cw := by rw [List.take_append_of_le_length (by omega), List.take_of_length_le (by omega)]
  have e2 : (b.drop cw ++ b.drop (0 + m)).drop (m + cw) = [] := List.drop_of_length_le (by simp; omega)
  rw [e1, e2, List.append_nil]

set_option maxHeartbeats 16000000 in
set_option maxRecDepth 20000 in
theorem put_any (s : Scr) (out : ByteArray) (w : World) (hs : s.Ok) (ho : out.size ≤ 100000) :
    Calls Try.prog 14 #[VSc s, .string out] w fun e w' => e = .returned (VSc (putL s out.data.toList)) ∧ Below w.heap.size w w' := by
  have hcv := conv_any (txt s.b)
  rw [txt_size] at hcv
  have hg0 : ¬ (s.w : Int) = 0 := by have := hs.w1; omega
  obtain ⟨cw, hcw⟩ : ∃ k, s.w = k := ⟨_, rfl⟩
  obtain ⟨ch, hch⟩ : ∃ k, s.h = k := ⟨_, rfl⟩
  obtain ⟨n, hn⟩ : ∃ k, s.b.length = k := ⟨_, rfl⟩
  have hnn : n = cw * ch := by rw [← hn, ← hcw, ← hch]; exact hs.len
  have hn2 : n ≤ 1920 := by rw [hnn, ← hcw, ← hch]; exact wh_small hs.w2 hs.h2
  rw [hcw] at hg0
  rw [hn] at hcv
  show Calls Try.prog 14 #[VV s.w s.h s.x s.y (txt s.b), .string out] w _
  rw [hcw, hch]
  obtain ⟨sx, hsx⟩ : ∃ k, s.x = k := ⟨_, rfl⟩
  obtain ⟨sy, hsy⟩ : ∃ k, s.y = k := ⟨_, rfl⟩
  obtain ⟨t0, ht0⟩ : ∃ t, txt s.b = t := ⟨_, rfl⟩
  rw [ht0] at hcv
  rw [hsx, hsy, ht0]
  have HT0 := Lib.hid ht0
  have HN := Lib.hid hnn
  have HCW := Lib.hid (And.intro hcw (And.intro hch (And.intro hsx (And.intro hsy hn))))
  clear hnn hn hcw hch hsx hsy ht0
  go_enter Try.func14, Try.ntmps14
  go_wp2_with fail
  go_step3
  go_wp2_with fail
  go_step3
  go_wp2_with fail
  have V0 : PAt w (Lib.bytesWorld ((w.alloc (.cells #[.int .i64 cw, .int .i64 ch, .int .i64 sx, .int .i64 sy, .string t0] 24)).alloc (.cells zs24 24)) 5 t0) w.heap.size (w.heap.size + 1) (w.heap.size + 1 + 1) cw ch sx sy t0 s.b := by
    have hb := conv_below ((w.alloc (.cells #[.int .i64 cw, .int .i64 ch, .int .i64 sx, .int .i64 sy, .string t0] 24)).alloc (.cells zs24 24)) 5 t0
    refine ⟨Blk.below (b := w.heap.size) (t := 24) (by (repeat (first | (with_reducible assumption) | (with_reducible apply Blk.new'; (first | (with_reducible rfl) | (simp; done))) | with_reducible apply Blk.alloc | with_reducible apply Blk.set | ((with_reducible apply Blk.set_ne); focus (first | (simp; done) | (simp; omega))) | with_reducible apply Blk.drewN | with_reducible apply Blk.drew))) hb, Blk.below (b := w.heap.size + 1) (t := 24) (by (repeat (first | (with_reducible assumption) | (with_reducible apply Blk.new'; (first | (with_reducible rfl) | (simp; done))) | with_reducible apply Blk.alloc | with_reducible apply Blk.set | ((with_reducible apply Blk.set_ne); focus (first | (simp; done) | (simp; omega))) | with_reducible apply Blk.drewN | with_reducible apply Blk.drew))) hb, ?_, by omega, by omega, by omega, Below.thn (by (repeat (first | (with_reducible assumption) | (with_reducible exact Below.refl _ _) | with_reducible apply bl_drewN | with_reducible apply Below.drew | (with_reducible apply bl_alloc; focus (first | (simp; done) | (simp; omega) | omega)) | (with_reducible apply bl_set; focus (first | (simp; done) | (simp; omega) | omega))))) hb, by omega, Nat.le_refl _, by omega⟩
    have := conv_row ((w.alloc (.cells #[.int .i64 cw, .int .i64 ch, .int .i64 sx, .int .i64 sy, .string t0] 24)).alloc (.cells zs24 24)) 5 t0
    rw [← HT0.out] at this ⊢
    simpa [txt] using this
  have hcap := grownCap_ge ((w.alloc (.cells #[.int .i64 cw, .int .i64 ch, .int .i64 sx, .int .i64 sy, .string t0] 24)).alloc (.cells zs24 24)) n 0 5
  generalize Lib.bytesWorld ((w.alloc (.cells #[.int .i64 cw, .int .i64 ch, .int .i64 sx, .int .i64 sy, .string t0] 24)).alloc (.cells zs24 24)) 5 t0 = W0 at *
  generalize grownCap ((w.alloc (.cells #[.int .i64 cw, .int .i64 ch, .int .i64 sx, .int .i64 sy, .string t0] 24)).alloc (.cells zs24 24)) n 0 5 = cap0 at *
  obtain ⟨A, hA⟩ : ∃ A, w.heap.size = A := ⟨_, rfl⟩
  have hwA : w.heap.size ≤ A := by omega
  obtain ⟨R, hR⟩ : ∃ R, A + 1 = R := ⟨_, rfl⟩
  rw [hA, hR] at V0
  obtain ⟨G0, hG0⟩ : ∃ R', R + 1 = R' := ⟨_, rfl⟩
  rw [hG0] at V0
  rw [hA, hR, hG0, show ((cw : Int) == 0) = false by simpa using hg0]
  clear hA hR hG0
  go_loopg [5, 17] out.size (fun k t5 t17 wr => ∃ (j g cap : Nat) (S : Scr), t5 = .slice (some ⟨g, 0, none⟩) n cap ∧ n ≤ cap ∧ t17 = .int .i64 j ∧ j + k = out.size ∧ S = putL s (out.data.toList.take j) ∧ PAt w wr A R g cw ch S.x S.y t0 S.b)
  case atStart => exact ⟨0, G0, cap0, s, rfl, hcap, rfl, by omega, rfl, by rw [HCW.out.2.2.1, HCW.out.2.2.2.1]; exact V0⟩
  case round =>
    clear V0 hcap hcv
    obtain ⟨j, g, cap, S, rfl, hcap, rfl, hj, hS, V⟩ := hrel
    have hSok : S.Ok := by rw [hS]; exact putL_ok hs _
    have hSw : S.w = cw ∧ S.h = ch := by rw [hS, (putL_w s _).1, (putL_w s _).2]; exact ⟨HCW.out.1, HCW.out.2.1⟩
    have hSl : S.b.length = n := by rw [hSok.len, hSw.1, hSw.2]; exact HN.out.symm
    have HJ := Lib.hid hj
    cases gk with
    | zero =>
      have hj' : ¬ (j : Int) < out.size := by omega
      have hout : S = putL s out.data.toList := by rw [hS, List.take_of_length_le (by show out.data.toList.length ≤ j; have : out.data.toList.length = out.size := rfl; omega)]
      have hc2 := Lib.run_convert_whole (P := Try.prog) wr 34 5 9 Try.underlying34 Try.underlying5 Try.underlying9 g 0 (txt S.b) (row_bytes V.row) cap
      rw [txt_size, hSl] at hc2
      have BAc := V.BA.cell; have BAf := V.BA.frozen; have BRc := V.BR.cell; have BRf := V.BR.frozen
      have BAl := V.BA.lt; have BRl := V.BR.lt
      have hAR := V.AR
      have HS := Lib.hid hS
      clear hj hS
      go_wp2_with fail
      refine bodyPost_ret (v := VV cw ch (putL s out.data.toList).x (putL s out.data.toList).y (txt (putL s out.data.toList).b)) ?_ rfl ⟨?_, ?_⟩
      · first | (simp [results, Try.results14, go_sem, BRc]; done) | simp [results, Try.results14, go_sem, BRc, BRl]
      · show _ = Ending.returned (VV _ _ _ _ _)
        rw [(putL_w s _).1, (putL_w s _).2, HCW.out.1, HCW.out.2.1]
      · have HBV := V.HB; have hA0 := V.A0; have hR0 := V.R0
        repeat (first | (with_reducible assumption) | (with_reducible exact Below.refl _ _) | with_reducible apply bl_drewN | with_reducible apply Below.drew | (with_reducible apply bl_alloc; focus (first | (simp; done) | (simp; omega) | omega)) | (with_reducible apply bl_set; focus (first | (simp; done) | (simp; omega) | omega)))
    | succ k =>
      have hj' : (j : Int) < out.size := by omega
      have hjl : j < out.size := by omega
      obtain ⟨c, hc⟩ : ∃ c, out[j] = c := ⟨_, rfl⟩
      have hS' : put1 S c = putL s (out.data.toList.take (j + 1)) := by
        have hjl' : j < out.data.toList.length := hjl
        rw [List.take_add_one, List.getElem?_eq_getElem hjl', putL_app, ← hS, ← hc]
        rfl
      have HS' := Lib.hid hS'
      have BAc := V.BA.cell; have BAl := V.BA.lt
      clear hj hS hS'
      go_wp2_with fail
      refine (shown_any c _).mono ?_
      rintro e w1 ⟨rfl, hb⟩
      have V1 := V.below hb
      clear V hb BAc BAl
      have hxl := hSok.x; have hyl := hSok.y
      rw [hSw.1] at hxl; rw [hSw.2] at hyl
      have hgA := V1.gA; have hgR := V1.gR; have hAR := V1.AR
      have H13 : c.toNat ≤ 255 := by have := c.toNat_lt; omega
      have hch24 : ch ≤ 24 := by have := hSok.h2; rw [hSw.2] at this; exact this
      have hcw80 : cw ≤ 80 := by have := hSok.w2; rw [hSw.1] at this; exact this
      obtain ⟨x, hx⟩ : ∃ x, S.x = x := ⟨_, rfl⟩
      obtain ⟨y, hy⟩ : ∃ y, S.y = y := ⟨_, rfl⟩
      rw [hx] at hxl; rw [hy] at hyl
      rw [hx, hy] at V1
      by_cases hp : 32 ≤ c.toNat ∧ c.toNat ≤ 126
      · rw [decide_eq_true hp]
        obtain ⟨m2, hm2⟩ : ∃ m2, y * cw = m2 := ⟨_, rfl⟩
        have hmul2 : (y : Int) * (cw : Int) = (m2 : Int) := by rw [← hm2]; simp
        obtain ⟨q, hq⟩ : ∃ q, q = m2 + x := ⟨_, rfl⟩
        have hadd2 : (m2 : Int) + (x : Int) = (q : Int) := by omega
        have hqn : q < n := by
          have h1 : (y + 1) * cw ≤ ch * cw := Nat.mul_le_mul_right _ hyl
          rw [Nat.succ_mul, hm2, Nat.mul_comm ch, ← HN.out] at h1
          omega
        have hput : put1 S c = if x + 1 < cw then ⟨cw, ch, x + 1, y, S.b.set q c⟩ else nl ⟨cw, ch, x, y, S.b.set q c⟩ := by
          unfold put1; rw [if_pos hp]; unfold putC
          rw [hx, hy, hSw.1, hSw.2, hm2, ← hq]
        have hqi : (q : Int) < n := by omega
        have hqb : q < S.b.length := by rw [hSl]; exact hqn
        obtain ⟨b', hb'⟩ : ∃ b', S.b.set q c = b' := ⟨_, rfl⟩
        have hbl : b'.length = n := by rw [← hb', List.length_set]; exact hSl
        have V2 := V1.setB hqb c
        rw [hb'] at V2 hput
        have hcell := V1.row.cell q hqb
        have hfz := V1.row.frz q hqb
        have HPUT := Lib.hid hput
        have HV2 := Lib.hid V2
        have BAc := V1.BA.cell; have BAf := V1.BA.frozen; have BAl := V1.BA.lt
        clear hput hp hx hy hm2 hq hb' hqn hqb V2
        go_upto_region 10 with fail
        refine wp_absQ (fun W => PAt w W A R g cw ch x y t0 b') HV2.out (fun W2 V3 => ?_)
        clear V1 HV2 hcell hfz BAc BAf BAl hmul2 hadd2 hqi
        have V1 := V3
        clear V3
        have BAc := V1.BA.cell; have BAf := V1.BA.frozen; have BAl := V1.BA.lt
        have hx80 : x < 80 := by omega
        by_cases hxx : x + 1 < cw
        · have hxi : (x : Int) + 1 < cw := by omega
          have hput : put1 S c = ⟨cw, ch, x + 1, y, b'⟩ := by rw [HPUT.out, if_pos hxx]
          have HP := Lib.hid hput
          clear hput hxx
          go_wp2_with fail
          go_roundg k
          case rel =>
            refine ⟨j + 1, g, cap, put1 S c, rfl, hcap, by simp, by have := HJ.out; omega, HS'.out, ?_⟩
            rw [HP.out]
            exact V1.setX (x + 1)
          case measure => omega
        · have hxi : ¬ (x : Int) + 1 < cw := by omega
          have hput : put1 S c = nl ⟨cw, ch, x, y, b'⟩ := by rw [HPUT.out, if_neg hxx]
          have HNL := Lib.hid hput
          clear hput hxx
          go_upto_region 20 with fail
          refine wp_absQ (fun W => PAt w W A R g cw ch (x + 1) y t0 b') (V1.setX (x + 1)) (fun W2 V2 => ?_)
          clear V1
          have BAc := V2.BA.cell; have BAf := V2.BA.frozen; have BAl := V2.BA.lt
          have hy24 : y < 24 := by omega
          by_cases hyy : y + 1 < ch
          · have hyi : (y : Int) + 1 < ch := by omega
            have hput : put1 S c = ⟨cw, ch, 0, y + 1, b'⟩ := by rw [HNL.out]; unfold nl; rw [if_pos hyy]
            have HP := Lib.hid hput
            clear hput hyy
            go_wp2_with fail
            have V4 := (V2.setX 0).setY (y + 1)
            go_roundg k
            case rel =>
              refine ⟨j + 1, g, cap, put1 S c, rfl, hcap, by simp, by have := HJ.out; omega, HS'.out, ?_⟩
              rw [HP.out]
              exact V4
            case measure => omega
          · have hyi : ¬ (y : Int) + 1 < ch := by omega
            have hput : put1 S c = ⟨cw, ch, 0, y, b'.drop cw ++ List.replicate cw 32⟩ := by rw [HNL.out]; unfold nl; rw [if_neg hyy]
            have HP := Lib.hid hput
            have hych : y + 1 = ch := by omega
            obtain ⟨m, hm⟩ : ∃ m, y * cw = m := ⟨_, rfl⟩
            have hmul : (y : Int) * (cw : Int) = (m : Int) := by rw [← hm]; simp
            have hmn : m + cw = n := by rw [HN.out, ← hych, ← hm, Nat.mul_comm cw, Nat.succ_mul]
            have HM := Lib.hid hmn
            have hcwn : (cw : Int) ≤ n := by omega
            have hmn2 : (m : Int) ≤ n := by omega
            have hncap : (n : Int) ≤ cap := by omega
            clear hput hyy hych hm hmn
            go_upto_region 24 with fail
            refine wp_absQ (fun W => PAt w W A R g cw ch 0 y t0 b') (((V2.setX 0).setY (y + 1)).setY y) (fun W3 V3 => ?_)
            clear V2 BAc BAf BAl
            have BAc := V3.BA.cell; have BAf := V3.BA.frozen; have BAl := V3.BA.lt
            by_cases hcc : cap = cw
            · have hcc2 := hcc.symm
              subst hcc2
              have hnc : n = cw := by omega
              have hcp := run_copy_none (P := Try.prog) W3 34 34 3 5 (some ⟨g, 0, none⟩) (some ⟨g, 0, none⟩) n cw 0 0 Try.underlying34 (by kernel_rfl) (Nat.zero_min _)
              have V4 : PAt w W3 A R g cw ch 0 y t0 (b'.take 0 ++ b'.drop cw ++ b'.drop (0 + (b'.drop cw).length)) := by
                have : b'.drop cw = [] := List.drop_of_length_le (by omega)
                rw [this]; simpa using V3
              have HNC := Lib.hid hnc
              clear hnc V3
              go_upto_region 25 with fail
              have hcm : ¬ cw = m := by have := HM.out; omega
              have hcm2 : m ≤ cw := by omega
              obtain ⟨b1, hb1⟩ : ∃ b1, b'.take 0 ++ b'.drop cw ++ b'.drop (0 + (b'.drop cw).length) = b1 := ⟨_, rfl⟩
              rw [hb1] at V4
              have hb1l : b1.length = n := by rw [← hb1]; simp; omega
              have HB1 := Lib.hid hb1
              obtain ⟨bl, hbl2⟩ : ∃ bl, txt (List.replicate cw 32) = bl := ⟨_, rfl⟩
              have hbls : bl.size = cw := by rw [← hbl2, txt_size, List.length_replicate]
              have hrep := fun W => rep_any cw W (by omega)
              rw [hbl2] at hrep
              have HREP := Lib.hid hrep
              have HBL := Lib.hid hbl2
              have BAw := V4.BA
              clear hrep hbl2 hb1
              refine wp_region_typed 10 (fun k => match k with  | _ => []) (fun k => match k with  | _ => false) (fun k => match k with | 9 => some ⟨(Unit), (()), (fun _ => .string bl), (fun _ _ => True), (fun _ _ _ h _ => h)⟩ | _ => none) (by kernel_rfl) (by kernel_rfl) (by intro d0 v0 c0 a0 w0 h0; cases d0 <;> exact h0) ?_
              rw [show List.range 10 = [0, 1, 2, 3, 4, 5, 6, 7, 8, 9] from rfl]
              first
                | (refine ty_skip rfl rfl ?_; (try simp only [Act.put, List.setIfInBounds_toArray, List.set_cons_zero, List.set_cons_succ]))
                | (refine ty_pure rfl rfl rfl rfl ?_; apply Exists.intro; refine ⟨fun wq hq hk => ?_, ?_⟩
                   · have f0 := hq.blk BAw; simp only [pureAt]; go_simp; (try simp only [↓IntWalk.iteOmega]); (try go_bits); (try simp only [pureUpon]); (first | done | exact ⟨rfl, rfl⟩ | exact ⟨trivial, rfl⟩ | rfl)
                   (try simp only [Act.put, List.setIfInBounds_toArray, List.set_cons_zero, List.set_cons_succ]))
              first
                | (refine ty_skip rfl rfl ?_; (try simp only [Act.put, List.setIfInBounds_toArray, List.set_cons_zero, List.set_cons_succ]))
                | (refine ty_pure rfl rfl rfl rfl ?_; apply Exists.intro; refine ⟨fun wq hq hk => ?_, ?_⟩
                   · have f0 := hq.blk BAw; simp only [pureAt]; go_simp; (try simp only [↓IntWalk.iteOmega]); (try go_bits); (try simp only [pureUpon]); (first | done | exact ⟨rfl, rfl⟩ | exact ⟨trivial, rfl⟩ | rfl)
                   (try simp only [Act.put, List.setIfInBounds_toArray, List.set_cons_zero, List.set_cons_succ]))
              first
                | (refine ty_skip rfl rfl ?_; (try simp only [Act.put, List.setIfInBounds_toArray, List.set_cons_zero, List.set_cons_succ]))
                | (refine ty_pure rfl rfl rfl rfl ?_; apply Exists.intro; refine ⟨fun wq hq hk => ?_, ?_⟩
                   · have f0 := hq.blk BAw; simp only [pureAt]; go_simp; (try simp only [↓IntWalk.iteOmega]); (try go_bits); (try simp only [pureUpon]); (first | done | exact ⟨rfl, rfl⟩ | exact ⟨trivial, rfl⟩ | rfl)
                   (try simp only [Act.put, List.setIfInBounds_toArray, List.set_cons_zero, List.set_cons_succ]))
              first
                | (refine ty_skip rfl rfl ?_; (try simp only [Act.put, List.setIfInBounds_toArray, List.set_cons_zero, List.set_cons_succ]))
                | (refine ty_pure rfl rfl rfl rfl ?_; apply Exists.intro; refine ⟨fun wq hq hk => ?_, ?_⟩
                   · have f0 := hq.blk BAw; simp only [pureAt]; go_simp; (try simp only [↓IntWalk.iteOmega]); (try go_bits); (try simp only [pureUpon]); (first | done | exact ⟨rfl, rfl⟩ | exact ⟨trivial, rfl⟩ | rfl)
                   (try simp only [Act.put, List.setIfInBounds_toArray, List.set_cons_zero, List.set_cons_succ]))
              first
                | (refine ty_skip rfl rfl ?_; (try simp only [Act.put, List.setIfInBounds_toArray, List.set_cons_zero, List.set_cons_succ]))
                | (refine ty_pure rfl rfl rfl rfl ?_; apply Exists.intro; refine ⟨fun wq hq hk => ?_, ?_⟩
                   · have f0 := hq.blk BAw; simp only [pureAt]; go_simp; (try simp only [↓IntWalk.iteOmega]); (try go_bits); (try simp only [pureUpon]); (first | done | exact ⟨rfl, rfl⟩ | exact ⟨trivial, rfl⟩ | rfl)
                   (try simp only [Act.put, List.setIfInBounds_toArray, List.set_cons_zero, List.set_cons_succ]))
              first
                | (refine ty_skip rfl rfl ?_; (try simp only [Act.put, List.setIfInBounds_toArray, List.set_cons_zero, List.set_cons_succ]))
                | (refine ty_pure rfl rfl rfl rfl ?_; apply Exists.intro; refine ⟨fun wq hq hk => ?_, ?_⟩
                   · have f0 := hq.blk BAw; simp only [pureAt]; go_simp; (try simp only [↓IntWalk.iteOmega]); (try go_bits); (try simp only [pureUpon]); (first | done | exact ⟨rfl, rfl⟩ | exact ⟨trivial, rfl⟩ | rfl)
                   (try simp only [Act.put, List.setIfInBounds_toArray, List.set_cons_zero, List.set_cons_succ]))
              first
                | (refine ty_skip rfl rfl ?_; (try simp only [Act.put, List.setIfInBounds_toArray, List.set_cons_zero, List.set_cons_succ]))
                | (refine ty_pure rfl rfl rfl rfl ?_; apply Exists.intro; refine ⟨fun wq hq hk => ?_, ?_⟩
                   · have f0 := hq.blk BAw; simp only [pureAt]; go_simp; (try simp only [↓IntWalk.iteOmega]); (try go_bits); (try simp only [pureUpon]); (first | done | exact ⟨rfl, rfl⟩ | exact ⟨trivial, rfl⟩ | rfl)
                   (try simp only [Act.put, List.setIfInBounds_toArray, List.set_cons_zero, List.set_cons_succ]))
              first
                | (refine ty_skip rfl rfl ?_; (try simp only [Act.put, List.setIfInBounds_toArray, List.set_cons_zero, List.set_cons_succ]))
                | (refine ty_pure rfl rfl rfl rfl ?_; apply Exists.intro; refine ⟨fun wq hq hk => ?_, ?_⟩
                   · have f0 := hq.blk BAw; simp only [pureAt]; go_simp; (try simp only [↓IntWalk.iteOmega]); (try go_bits); (try simp only [pureUpon]); (first | done | exact ⟨rfl, rfl⟩ | exact ⟨trivial, rfl⟩ | rfl)
                   (try simp only [Act.put, List.setIfInBounds_toArray, List.set_cons_zero, List.set_cons_succ]))
              first
                | (refine ty_skip rfl rfl ?_; (try simp only [Act.put, List.setIfInBounds_toArray, List.set_cons_zero, List.set_cons_succ]))
                | (refine ty_pure rfl rfl rfl rfl ?_; apply Exists.intro; refine ⟨fun wq hq hk => ?_, ?_⟩
                   · have f0 := hq.blk BAw; simp only [pureAt]; go_simp; (try simp only [↓IntWalk.iteOmega]); (try go_bits); (try simp only [pureUpon]); (first | done | exact ⟨rfl, rfl⟩ | exact ⟨trivial, rfl⟩ | rfl)
                   (try simp only [Act.put, List.setIfInBounds_toArray, List.set_cons_zero, List.set_cons_succ]))
              refine ty_rel rfl rfl _ rfl rfl (fun wq hq hk => ?_) ?_
              · have f0 := hq.blk BAw; simp only [relAt]; go_simp; (try simp only [relUpon]); (go_at_call 33; refine (HREP.out _).mono ?_; rintro e w9 ⟨rfl, hb9⟩; exact ⟨_, rfl, .mk hb9 () rfl trivial⟩)
              rintro ⟨⟩
              (try simp only [Act.put, List.setIfInBounds_toArray, List.set_cons_zero, List.set_cons_succ])
              refine ty_nil ?_
              simp only [List.drop_succ_cons, List.drop_zero]
              intro W8 hw8 hΓ
              have V8 := V4.below hw8.out
              clear hΓ hw8 V4 BAw
              have hcs := run_copy_string (P := Try.prog) W8 34 9 3 5 g m (n - m) (cw - m) bl Try.underlying34 Try.sizeOf5 (by have := HM.out; omega) (fun j hj => by rw [V8.row.cell _ (by have := HM.out; omega)]; rfl) (fun j hj => V8.row.frz _ (by have := HM.out; omega))
              have V9 : PAt w (W8.setCells g m (bl.data.toList.map fun x => Value.int .u8 (x.toNat : Int))) A R g cw ch 0 y t0 (b'.drop cw ++ List.replicate cw 32) := by
                have h := V8.sets m (List.replicate cw 32) (by rw [hb1l, List.length_replicate]; have := HM.out; omega)
                have e := scroll_row b' m cw (hbl.trans HM.out.symm)
                rw [HB1.out] at e
                rw [e] at h
                rw [← HBL.out]
                exact h
              clear V8
              go_wp2_with fail
              go_roundg k
              case rel =>
                refine ⟨j + 1, g, cw, put1 S c, rfl, hcap, by simp, by have := HJ.out; omega, HS'.out, ?_⟩
                rw [HP.out]
                exact V9
              case measure => omega
            · have hsl : ((b'.drop cw).map bval).length = n - cw := by simp [hbl]
              have hcp := run_copy_cells (P := Try.prog) W3 34 34 3 5 g 0 n cap ⟨g, cw, none⟩ (n - cw) (cap - cw) ((b'.drop cw).map bval) Try.underlying34 (by kernel_rfl) (by rw [hsl]; exact (Nat.min_eq_left (Nat.sub_le _ _)).symm)
                (fun j v hv => by
                  rw [addr_plain]
                  rw [List.getElem?_map, List.getElem?_drop] at hv
                  obtain ⟨u, hu, rfl⟩ := Option.map_eq_some_iff.1 hv
                  obtain ⟨hlt, hu2⟩ := List.getElem?_eq_some_iff.1 hu
                  rw [V3.row.cell _ hlt]
                  simp [List.getD, hu])
                (fun j hj => by rw [Nat.zero_add, V3.row.cell j (by rw [hsl] at hj; omega)]; rfl) (fun j hj => by rw [Nat.zero_add]; exact V3.row.frz j (by rw [hsl] at hj; omega))
                (fun v hv => by obtain ⟨u, _, rfl⟩ := List.mem_map.1 hv; rfl)
              rw [hsl] at hcp
              have V4 := V3.sets 0 (b'.drop cw) (by simp)
              rw [List.map_drop] at V4
              clear V3
              go_upto_region 25 with fail
              clear BAc BAf BAl
              refine wp_absQ (fun W => PAt w W A R g cw ch 0 y t0 (b'.take 0 ++ b'.drop cw ++ b'.drop (0 + (b'.drop cw).length))) V4 (fun W4 V4 => ?_)
              clear hcp
              have hcm : ¬ cap = m := by have := HM.out; omega
              have hcm2 : m ≤ cap := by omega
              obtain ⟨b1, hb1⟩ : ∃ b1, b'.take 0 ++ b'.drop cw ++ b'.drop (0 + (b'.drop cw).length) = b1 := ⟨_, rfl⟩
              rw [hb1] at V4
              have hb1l : b1.length = n := by rw [← hb1]; simp; omega
              have HB1 := Lib.hid hb1
              obtain ⟨bl, hbl2⟩ : ∃ bl, txt (List.replicate cw 32) = bl := ⟨_, rfl⟩
              have hbls : bl.size = cw := by rw [← hbl2, txt_size, List.length_replicate]
              have hrep := fun W => rep_any cw W (by omega)
              rw [hbl2] at hrep
              have HREP := Lib.hid hrep
              have HBL := Lib.hid hbl2
              have BAw := V4.BA
              clear hrep hbl2 hb1
              refine wp_region_typed 10 (fun k => match k with  | _ => []) (fun k => match k with  | _ => false) (fun k => match k with | 9 => some ⟨(Unit), (()), (fun _ => .string bl), (fun _ _ => True), (fun _ _ _ h _ => h)⟩ | _ => none) (by kernel_rfl) (by kernel_rfl) (by intro d0 v0 c0 a0 w0 h0; cases d0 <;> exact h0) ?_
              rw [show List.range 10 = [0, 1, 2, 3, 4, 5, 6, 7, 8, 9] from rfl]
              first
                | (refine ty_skip rfl rfl ?_; (try simp only [Act.put, List.setIfInBounds_toArray, List.set_cons_zero, List.set_cons_succ]))
                | (refine ty_pure rfl rfl rfl rfl ?_; apply Exists.intro; refine ⟨fun wq hq hk => ?_, ?_⟩
                   · have f0 := hq.blk BAw; simp only [pureAt]; go_simp; (try simp only [↓IntWalk.iteOmega]); (try go_bits); (try simp only [pureUpon]); (first | done | exact ⟨rfl, rfl⟩ | exact ⟨trivial, rfl⟩ | rfl)
                   (try simp only [Act.put, List.setIfInBounds_toArray, List.set_cons_zero, List.set_cons_succ]))
              first
                | (refine ty_skip rfl rfl ?_; (try simp only [Act.put, List.setIfInBounds_toArray, List.set_cons_zero, List.set_cons_succ]))
                | (refine ty_pure rfl rfl rfl rfl ?_; apply Exists.intro; refine ⟨fun wq hq hk => ?_, ?_⟩
                   · have f0 := hq.blk BAw; simp only [pureAt]; go_simp; (try simp only [↓IntWalk.iteOmega]); (try go_bits); (try simp only [pureUpon]); (first | done | exact ⟨rfl, rfl⟩ | exact ⟨trivial, rfl⟩ | rfl)
                   (try simp only [Act.put, List.setIfInBounds_toArray, List.set_cons_zero, List.set_cons_succ]))
              first
                | (refine ty_skip rfl rfl ?_; (try simp only [Act.put, List.setIfInBounds_toArray, List.set_cons_zero, List.set_cons_succ]))
                | (refine ty_pure rfl rfl rfl rfl ?_; apply Exists.intro; refine ⟨fun wq hq hk => ?_, ?_⟩
                   · have f0 := hq.blk BAw; simp only [pureAt]; go_simp; (try simp only [↓IntWalk.iteOmega]); (try go_bits); (try simp only [pureUpon]); (first | done | exact ⟨rfl, rfl⟩ | exact ⟨trivial, rfl⟩ | rfl)
                   (try simp only [Act.put, List.setIfInBounds_toArray, List.set_cons_zero, List.set_cons_succ]))
              first
                | (refine ty_skip rfl rfl ?_; (try simp only [Act.put, List.setIfInBounds_toArray, List.set_cons_zero, List.set_cons_succ]))
                | (refine ty_pure rfl rfl rfl rfl ?_; apply Exists.intro; refine ⟨fun wq hq hk => ?_, ?_⟩
                   · have f0 := hq.blk BAw; simp only [pureAt]; go_simp; (try simp only [↓IntWalk.iteOmega]); (try go_bits); (try simp only [pureUpon]); (first | done | exact ⟨rfl, rfl⟩ | exact ⟨trivial, rfl⟩ | rfl)
                   (try simp only [Act.put, List.setIfInBounds_toArray, List.set_cons_zero, List.set_cons_succ]))
              first
                | (refine ty_skip rfl rfl ?_; (try simp only [Act.put, List.setIfInBounds_toArray, List.set_cons_zero, List.set_cons_succ]))
                | (refine ty_pure rfl rfl rfl rfl ?_; apply Exists.intro; refine ⟨fun wq hq hk => ?_, ?_⟩
                   · have f0 := hq.blk BAw; simp only [pureAt]; go_simp; (try simp only [↓IntWalk.iteOmega]); (try go_bits); (try simp only [pureUpon]); (first | done | exact ⟨rfl, rfl⟩ | exact ⟨trivial, rfl⟩ | rfl)
                   (try simp only [Act.put, List.setIfInBounds_toArray, List.set_cons_zero, List.set_cons_succ]))
              first
                | (refine ty_skip rfl rfl ?_; (try simp only [Act.put, List.setIfInBounds_toArray, List.set_cons_zero, List.set_cons_succ]))
                | (refine ty_pure rfl rfl rfl rfl ?_; apply Exists.intro; refine ⟨fun wq hq hk => ?_, ?_⟩
                   · have f0 := hq.blk BAw; simp only [pureAt]; go_simp; (try simp only [↓IntWalk.iteOmega]); (try go_bits); (try simp only [pureUpon]); (first | done | exact ⟨rfl, rfl⟩ | exact ⟨trivial, rfl⟩ | rfl)
                   (try simp only [Act.put, List.setIfInBounds_toArray, List.set_cons_zero, List.set_cons_succ]))
              first
                | (refine ty_skip rfl rfl ?_; (try simp only [Act.put, List.setIfInBounds_toArray, List.set_cons_zero, List.set_cons_succ]))
                | (refine ty_pure rfl rfl rfl rfl ?_; apply Exists.intro; refine ⟨fun wq hq hk => ?_, ?_⟩
                   · have f0 := hq.blk BAw; simp only [pureAt]; go_simp; (try simp only [↓IntWalk.iteOmega]); (try go_bits); (try simp only [pureUpon]); (first | done | exact ⟨rfl, rfl⟩ | exact ⟨trivial, rfl⟩ | rfl)
                   (try simp only [Act.put, List.setIfInBounds_toArray, List.set_cons_zero, List.set_cons_succ]))
              first
                | (refine ty_skip rfl rfl ?_; (try simp only [Act.put, List.setIfInBounds_toArray, List.set_cons_zero, List.set_cons_succ]))
                | (refine ty_pure rfl rfl rfl rfl ?_; apply Exists.intro; refine ⟨fun wq hq hk => ?_, ?_⟩
                   · have f0 := hq.blk BAw; simp only [pureAt]; go_simp; (try simp only [↓IntWalk.iteOmega]); (try go_bits); (try simp only [pureUpon]); (first | done | exact ⟨rfl, rfl⟩ | exact ⟨trivial, rfl⟩ | rfl)
                   (try simp only [Act.put, List.setIfInBounds_toArray, List.set_cons_zero, List.set_cons_succ]))
              first
                | (refine ty_skip rfl rfl ?_; (try simp only [Act.put, List.setIfInBounds_toArray, List.set_cons_zero, List.set_cons_succ]))
                | (refine ty_pure rfl rfl rfl rfl ?_; apply Exists.intro; refine ⟨fun wq hq hk => ?_, ?_⟩
                   · have f0 := hq.blk BAw; simp only [pureAt]; go_simp; (try simp only [↓IntWalk.iteOmega]); (try go_bits); (try simp only [pureUpon]); (first | done | exact ⟨rfl, rfl⟩ | exact ⟨trivial, rfl⟩ | rfl)
                   (try simp only [Act.put, List.setIfInBounds_toArray, List.set_cons_zero, List.set_cons_succ]))
              refine ty_rel rfl rfl _ rfl rfl (fun wq hq hk => ?_) ?_
              · have f0 := hq.blk BAw; simp only [relAt]; go_simp; (try simp only [relUpon]); (go_at_call 33; refine (HREP.out _).mono ?_; rintro e w9 ⟨rfl, hb9⟩; exact ⟨_, rfl, .mk hb9 () rfl trivial⟩)
              rintro ⟨⟩
              (try simp only [Act.put, List.setIfInBounds_toArray, List.set_cons_zero, List.set_cons_succ])
              refine ty_nil ?_
              simp only [List.drop_succ_cons, List.drop_zero]
              intro W8 hw8 hΓ
              have V8 := V4.below hw8.out
              clear hΓ hw8 V4 BAw
              have hcs := run_copy_string (P := Try.prog) W8 34 9 3 5 g m (n - m) (cap - m) bl Try.underlying34 Try.sizeOf5 (by have := HM.out; omega) (fun j hj => by rw [V8.row.cell _ (by have := HM.out; omega)]; rfl) (fun j hj => V8.row.frz _ (by have := HM.out; omega))
              have V9 : PAt w (W8.setCells g m (bl.data.toList.map fun x => Value.int .u8 (x.toNat : Int))) A R g cw ch 0 y t0 (b'.drop cw ++ List.replicate cw 32) := by
                have h := V8.sets m (List.replicate cw 32) (by rw [hb1l, List.length_replicate]; have := HM.out; omega)
                have e := scroll_row b' m cw (hbl.trans HM.out.symm)
                rw [HB1.out] at e
                rw [e] at h
                rw [← HBL.out]
                exact h
              clear V8
              go_wp2_with fail
              go_roundg k
              case rel =>
                refine ⟨j + 1, g, cap, put1 S c, rfl, hcap, by simp, by have := HJ.out; omega, HS'.out, ?_⟩
                rw [HP.out]
                exact V9
              case measure => omega
      · rw [decide_eq_false hp]
        by_cases h13 : c.toNat = 13
        · have e13 : (c.toNat : Int) = 13 := by omega
          have hput : put1 S c = ⟨S.w, S.h, 0, y, S.b⟩ := by unfold put1; rw [if_neg hp, if_pos h13, ← hy]
          have HP := Lib.hid hput
          have BAc := V1.BA.cell; have BAf := V1.BA.frozen; have BAl := V1.BA.lt
          clear hput hp hx hy
          go_wp2_with fail
          go_roundg k
          case rel =>
            refine ⟨j + 1, g, cap, put1 S c, rfl, hcap, by simp, by have := HJ.out; omega, HS'.out, ?_⟩
            rw [HP.out]
            exact V1.setX 0
          case measure => omega
        have n13 : ¬ (c.toNat : Int) = 13 := by omega
        by_cases h8 : c.toNat = 8
        · have e8 : (c.toNat : Int) = 8 := by omega
          obtain ⟨x1, hx1⟩ : ∃ x1, x1 = x - 1 := ⟨_, rfl⟩
          have hx80 : x < 80 := by have := hSok.w2; omega
          have hmax : max ((x : Int) - 1) 0 = (x1 : Int) := by omega
          have hput : put1 S c = ⟨S.w, S.h, x1, y, S.b⟩ := by unfold put1; rw [if_neg hp, if_neg h13, if_pos h8, hx1, ← hx, ← hy]
          have HP := Lib.hid hput
          have BAc := V1.BA.cell; have BAf := V1.BA.frozen; have BAl := V1.BA.lt
          clear hput hp hx hy hx1
          go_wp2_with fail
          go_roundg k
          case rel =>
            refine ⟨j + 1, g, cap, put1 S c, rfl, hcap, by simp, by have := HJ.out; omega, HS'.out, ?_⟩
            rw [HP.out]
            exact V1.setX x1
          case measure => omega
        have n8 : ¬ (c.toNat : Int) = 8 := by omega
        by_cases h12 : c.toNat = 12
        · have e12 : (c.toNat : Int) = 12 := by omega
          have hput : put1 S c = ⟨S.w, S.h, 0, 0, List.replicate n 32⟩ := by unfold put1; rw [if_neg hp, if_neg h13, if_neg h8, if_pos h12, ← hSl, hSok.len]; rfl
          have HP := Lib.hid hput
          have hcv2 := conv_any (txt (List.replicate n 32))
          rw [txt_size, List.length_replicate] at hcv2
          obtain ⟨bl, hbl⟩ : ∃ bl, txt (List.replicate n 32) = bl := ⟨_, rfl⟩
          rw [hbl] at hcv2
          have HBL := Lib.hid hbl
          have hbl' := hbl
          clear hput hp hx hy hbl
          have BAc := V1.BA.cell; have BAf := V1.BA.frozen; have BAl := V1.BA.lt
          have hrep := fun W => rep_any n W (by omega)
          rw [hbl'] at hrep
          have HREP := Lib.hid hrep
          clear hrep hbl'
          go_wp2_with fail
          refine (HREP.out _).mono ?_
          rintro e w2 ⟨rfl, hb⟩
          have V2 := V1.below hb
          clear V1 BAc BAf BAl hb
          go_upto_region 18 with fail
          have V3 : PAt w (Lib.bytesWorld w2 5 bl) A R w2.heap.size cw ch x y t0 (List.replicate n 32) := by
            have hb := conv_below w2 5 bl
            have hr := conv_row w2 5 bl
            rw [← HBL.out] at hr ⊢
            have := V2.HB.size
            exact ⟨V2.BA.below (by rw [HBL.out]; exact hb), V2.BR.below (by rw [HBL.out]; exact hb), by simpa [txt] using hr, Nat.ne_of_gt V2.BA.lt, Nat.ne_of_gt V2.BR.lt, V2.AR, Below.thn V2.HB (by rw [HBL.out]; exact hb) this, this, V2.A0, V2.R0⟩
          have hcap2 := grownCap_ge w2 n 0 5
          refine wp_absQ (fun W => PAt w W A R w2.heap.size cw ch x y t0 (List.replicate n 32)) V3 (fun W3 V3 => ?_)
          clear V2
          have BAc := V3.BA.cell; have BAf := V3.BA.frozen; have BAl := V3.BA.lt
          go_wp2_with fail
          have V4 := (V3.setX 0).setY 0
          go_roundg k
          case rel =>
            refine ⟨j + 1, w2.heap.size, grownCap w2 n 0 5, put1 S c, rfl, hcap2, by simp, by have := HJ.out; omega, HS'.out, ?_⟩
            rw [HP.out]
            exact V4
          case measure => omega
        have n12 : ¬ (c.toNat : Int) = 12 := by omega
        by_cases h10 : c.toNat = 10
        · have e10 : (c.toNat : Int) = 10 := by omega
          have hput : put1 S c = nl ⟨cw, ch, x, y, S.b⟩ := by unfold put1; rw [if_neg hp, if_neg h13, if_neg h8, if_neg h12, if_pos h10, ← hx, ← hy, ← hSw.1, ← hSw.2]
          have HNL := Lib.hid hput
          obtain ⟨b', hb'⟩ : ∃ b', S.b = b' := ⟨_, rfl⟩
          rw [hb'] at HNL V1
          have hbl : b'.length = n := by rw [← hb']; exact hSl
          clear hput hp hx hy hb'
          go_upto_region 20 with fail
          refine wp_absQ (fun W => PAt w W A R g cw ch x y t0 b') V1 (fun W2 V2 => ?_)
          clear V1
          have BAc := V2.BA.cell; have BAf := V2.BA.frozen; have BAl := V2.BA.lt
          have hy24 : y < 24 := by omega
          by_cases hyy : y + 1 < ch
          · have hyi : (y : Int) + 1 < ch := by omega
            have hput : put1 S c = ⟨cw, ch, 0, y + 1, b'⟩ := by rw [HNL.out]; unfold nl; rw [if_pos hyy]
            have HP := Lib.hid hput
            clear hput hyy
            go_wp2_with fail
            have V4 := (V2.setX 0).setY (y + 1)
            go_roundg k
            case rel =>
              refine ⟨j + 1, g, cap, put1 S c, rfl, hcap, by simp, by have := HJ.out; omega, HS'.out, ?_⟩
              rw [HP.out]
              exact V4
            case measure => omega
          · have hyi : ¬ (y : Int) + 1 < ch := by omega
            have hput : put1 S c = ⟨cw, ch, 0, y, b'.drop cw ++ List.replicate cw 32⟩ := by rw [HNL.out]; unfold nl; rw [if_neg hyy]
            have HP := Lib.hid hput
            have hych : y + 1 = ch := by omega
            obtain ⟨m, hm⟩ : ∃ m, y * cw = m := ⟨_, rfl⟩
            have hmul : (y : Int) * (cw : Int) = (m : Int) := by rw [← hm]; simp
            have hmn : m + cw = n := by rw [HN.out, ← hych, ← hm, Nat.mul_comm cw, Nat.succ_mul]
            have HM := Lib.hid hmn
            have hcwn : (cw : Int) ≤ n := by omega
            have hmn2 : (m : Int) ≤ n := by omega
            have hncap : (n : Int) ≤ cap := by omega
            clear hput hyy hych hm hmn
            go_upto_region 24 with fail
            refine wp_absQ (fun W => PAt w W A R g cw ch 0 y t0 b') (((V2.setX 0).setY (y + 1)).setY y) (fun W3 V3 => ?_)
            clear V2 BAc BAf BAl
            have BAc := V3.BA.cell; have BAf := V3.BA.frozen; have BAl := V3.BA.lt
            by_cases hcc : cap = cw
            · have hcc2 := hcc.symm
              subst hcc2
              have hnc : n = cw := by omega
              have hcp := run_copy_none (P := Try.prog) W3 34 34 3 5 (some ⟨g, 0, none⟩) (some ⟨g, 0, none⟩) n cw 0 0 Try.underlying34 (by kernel_rfl) (Nat.zero_min _)
              have V4 : PAt w W3 A R g cw ch 0 y t0 (b'.take 0 ++ b'.drop cw ++ b'.drop (0 + (b'.drop cw).length)) := by
                have : b'.drop cw = [] := List.drop_of_length_le (by omega)
                rw [this]; simpa using V3
              have HNC := Lib.hid hnc
              clear hnc V3
              go_upto_region 25 with fail
              have hcm : ¬ cw = m := by have := HM.out; omega
              have hcm2 : m ≤ cw := by omega
              obtain ⟨b1, hb1⟩ : ∃ b1, b'.take 0 ++ b'.drop cw ++ b'.drop (0 + (b'.drop cw).length) = b1 := ⟨_, rfl⟩
              rw [hb1] at V4
              have hb1l : b1.length = n := by rw [← hb1]; simp; omega
              have HB1 := Lib.hid hb1
              obtain ⟨bl, hbl2⟩ : ∃ bl, txt (List.replicate cw 32) = bl := ⟨_, rfl⟩
              have hbls : bl.size = cw := by rw [← hbl2, txt_size, List.length_replicate]
              have hrep := fun W => rep_any cw W (by omega)
              rw [hbl2] at hrep
              have HREP := Lib.hid hrep
              have HBL := Lib.hid hbl2
              have BAw := V4.BA
              clear hrep hbl2 hb1
              refine wp_region_typed 10 (fun k => match k with  | _ => []) (fun k => match k with  | _ => false) (fun k => match k with | 9 => some ⟨(Unit), (()), (fun _ => .string bl), (fun _ _ => True), (fun _ _ _ h _ => h)⟩ | _ => none) (by kernel_rfl) (by kernel_rfl) (by intro d0 v0 c0 a0 w0 h0; cases d0 <;> exact h0) ?_
              rw [show List.range 10 = [0, 1, 2, 3, 4, 5, 6, 7, 8, 9] from rfl]
              first
                | (refine ty_skip rfl rfl ?_; (try simp only [Act.put, List.setIfInBounds_toArray, List.set_cons_zero, List.set_cons_succ]))
                | (refine ty_pure rfl rfl rfl rfl ?_; apply Exists.intro; refine ⟨fun wq hq hk => ?_, ?_⟩
                   · have f0 := hq.blk BAw; simp only [pureAt]; go_simp; (try simp only [↓IntWalk.iteOmega]); (try go_bits); (try simp only [pureUpon]); (first | done | exact ⟨rfl, rfl⟩ | exact ⟨trivial, rfl⟩ | rfl)
                   (try simp only [Act.put, List.setIfInBounds_toArray, List.set_cons_zero, List.set_cons_succ]))
              first
                | (refine ty_skip rfl rfl ?_; (try simp only [Act.put, List.setIfInBounds_toArray, List.set_cons_zero, List.set_cons_succ]))
                | (refine ty_pure rfl rfl rfl rfl ?_; apply Exists.intro; refine ⟨fun wq hq hk => ?_, ?_⟩
                   · have f0 := hq.blk BAw; simp only [pureAt]; go_simp; (try simp only [↓IntWalk.iteOmega]); (try go_bits); (try simp only [pureUpon]); (first | done | exact ⟨rfl, rfl⟩ | exact ⟨trivial, rfl⟩ | rfl)
                   (try simp only [Act.put, List.setIfInBounds_toArray, List.set_cons_zero, List.set_cons_succ]))
              first
                | (refine ty_skip rfl rfl ?_; (try simp only [Act.put, List.setIfInBounds_toArray, List.set_cons_zero, List.set_cons_succ]))
                | (refine ty_pure rfl rfl rfl rfl ?_; apply Exists.intro; refine ⟨fun wq hq hk => ?_, ?_⟩
                   · have f0 := hq.blk BAw; simp only [pureAt]; go_simp; (try simp only [↓IntWalk.iteOmega]); (try go_bits); (try simp only [pureUpon]); (first | done | exact ⟨rfl, rfl⟩ | exact ⟨trivial, rfl⟩ | rfl)
                   (try simp only [Act.put, List.setIfInBounds_toArray, List.set_cons_zero, List.set_cons_succ]))
              first
                | (refine ty_skip rfl rfl ?_; (try simp only [Act.put, List.setIfInBounds_toArray, List.set_cons_zero, List.set_cons_succ]))
                | (refine ty_pure rfl rfl rfl rfl ?_; apply Exists.intro; refine ⟨fun wq hq hk => ?_, ?_⟩
                   · have f0 := hq.blk BAw; simp only [pureAt]; go_simp; (try simp only [↓IntWalk.iteOmega]); (try go_bits); (try simp only [pureUpon]); (first | done | exact ⟨rfl, rfl⟩ | exact ⟨trivial, rfl⟩ | rfl)
                   (try simp only [Act.put, List.setIfInBounds_toArray, List.set_cons_zero, List.set_cons_succ]))
              first
                | (refine ty_skip rfl rfl ?_; (try simp only [Act.put, List.setIfInBounds_toArray, List.set_cons_zero, List.set_cons_succ]))
                | (refine ty_pure rfl rfl rfl rfl ?_; apply Exists.intro; refine ⟨fun wq hq hk => ?_, ?_⟩
                   · have f0 := hq.blk BAw; simp only [pureAt]; go_simp; (try simp only [↓IntWalk.iteOmega]); (try go_bits); (try simp only [pureUpon]); (first | done | exact ⟨rfl, rfl⟩ | exact ⟨trivial, rfl⟩ | rfl)
                   (try simp only [Act.put, List.setIfInBounds_toArray, List.set_cons_zero, List.set_cons_succ]))
              first
                | (refine ty_skip rfl rfl ?_; (try simp only [Act.put, List.setIfInBounds_toArray, List.set_cons_zero, List.set_cons_succ]))
                | (refine ty_pure rfl rfl rfl rfl ?_; apply Exists.intro; refine ⟨fun wq hq hk => ?_, ?_⟩
                   · have f0 := hq.blk BAw; simp only [pureAt]; go_simp; (try simp only [↓IntWalk.iteOmega]); (try go_bits); (try simp only [pureUpon]); (first | done | exact ⟨rfl, rfl⟩ | exact ⟨trivial, rfl⟩ | rfl)
                   (try simp only [Act.put, List.setIfInBounds_toArray, List.set_cons_zero, List.set_cons_succ]))
              first
                | (refine ty_skip rfl rfl ?_; (try simp only [Act.put, List.setIfInBounds_toArray, List.set_cons_zero, List.set_cons_succ]))
                | (refine ty_pure rfl rfl rfl rfl ?_; apply Exists.intro; refine ⟨fun wq hq hk => ?_, ?_⟩
                   · have f0 := hq.blk BAw; simp only [pureAt]; go_simp; (try simp only [↓IntWalk.iteOmega]); (try go_bits); (try simp only [pureUpon]); (first | done | exact ⟨rfl, rfl⟩ | exact ⟨trivial, rfl⟩ | rfl)
                   (try simp only [Act.put, List.setIfInBounds_toArray, List.set_cons_zero, List.set_cons_succ]))
              first
                | (refine ty_skip rfl rfl ?_; (try simp only [Act.put, List.setIfInBounds_toArray, List.set_cons_zero, List.set_cons_succ]))
                | (refine ty_pure rfl rfl rfl rfl ?_; apply Exists.intro; refine ⟨fun wq hq hk => ?_, ?_⟩
                   · have f0 := hq.blk BAw; simp only [pureAt]; go_simp; (try simp only [↓IntWalk.iteOmega]); (try go_bits); (try simp only [pureUpon]); (first | done | exact ⟨rfl, rfl⟩ | exact ⟨trivial, rfl⟩ | rfl)
                   (try simp only [Act.put, List.setIfInBounds_toArray, List.set_cons_zero, List.set_cons_succ]))
              first
                | (refine ty_skip rfl rfl ?_; (try simp only [Act.put, List.setIfInBounds_toArray, List.set_cons_zero, List.set_cons_succ]))
                | (refine ty_pure rfl rfl rfl rfl ?_; apply Exists.intro; refine ⟨fun wq hq hk => ?_, ?_⟩
                   · have f0 := hq.blk BAw; simp only [pureAt]; go_simp; (try simp only [↓IntWalk.iteOmega]); (try go_bits); (try simp only [pureUpon]); (first | done | exact ⟨rfl, rfl⟩ | exact ⟨trivial, rfl⟩ | rfl)
                   (try simp only [Act.put, List.setIfInBounds_toArray, List.set_cons_zero, List.set_cons_succ]))
              refine ty_rel rfl rfl _ rfl rfl (fun wq hq hk => ?_) ?_
              · have f0 := hq.blk BAw; simp only [relAt]; go_simp; (try simp only [relUpon]); (go_at_call 33; refine (HREP.out _).mono ?_; rintro e w9 ⟨rfl, hb9⟩; exact ⟨_, rfl, .mk hb9 () rfl trivial⟩)
              rintro ⟨⟩
              (try simp only [Act.put, List.setIfInBounds_toArray, List.set_cons_zero, List.set_cons_succ])
              refine ty_nil ?_
              simp only [List.drop_succ_cons, List.drop_zero]
              intro W8 hw8 hΓ
              have V8 := V4.below hw8.out
              clear hΓ hw8 V4 BAw
              have hcs := run_copy_string (P := Try.prog) W8 34 9 3 5 g m (n - m) (cw - m) bl Try.underlying34 Try.sizeOf5 (by have := HM.out; omega) (fun j hj => by rw [V8.row.cell _ (by have := HM.out; omega)]; rfl) (fun j hj => V8.row.frz _ (by have := HM.out; omega))
              have V9 : PAt w (W8.setCells g m (bl.data.toList.map fun x => Value.int .u8 (x.toNat : Int))) A R g cw ch 0 y t0 (b'.drop cw ++ List.replicate cw 32) := by
                have h := V8.sets m (List.replicate cw 32) (by rw [hb1l, List.length_replicate]; have := HM.out; omega)
                have e := scroll_row b' m cw (hbl.trans HM.out.symm)
                rw [HB1.out] at e
                rw [e] at h
                rw [← HBL.out]
                exact h
              clear V8
              go_wp2_with fail
              go_roundg k
              case rel =>
                refine ⟨j + 1, g, cw, put1 S c, rfl, hcap, by simp, by have := HJ.out; omega, HS'.out, ?_⟩
                rw [HP.out]
                exact V9
              case measure => omega
            · have hsl : ((b'.drop cw).map bval).length = n - cw := by simp [hbl]
              have hcp := run_copy_cells (P := Try.prog) W3 34 34 3 5 g 0 n cap ⟨g, cw, none⟩ (n - cw) (cap - cw) ((b'.drop cw).map bval) Try.underlying34 (by kernel_rfl) (by rw [hsl]; exact (Nat.min_eq_left (Nat.sub_le _ _)).symm)
                (fun j v hv => by
                  rw [addr_plain]
                  rw [List.getElem?_map, List.getElem?_drop] at hv
                  obtain ⟨u, hu, rfl⟩ := Option.map_eq_some_iff.1 hv
                  obtain ⟨hlt, hu2⟩ := List.getElem?_eq_some_iff.1 hu
                  rw [V3.row.cell _ hlt]
                  simp [List.getD, hu])
                (fun j hj => by rw [Nat.zero_add, V3.row.cell j (by rw [hsl] at hj; omega)]; rfl) (fun j hj => by rw [Nat.zero_add]; exact V3.row.frz j (by rw [hsl] at hj; omega))
                (fun v hv => by obtain ⟨u, _, rfl⟩ := List.mem_map.1 hv; rfl)
              rw [hsl] at hcp
              have V4 := V3.sets 0 (b'.drop cw) (by simp)
              rw [List.map_drop] at V4
              clear V3
              go_upto_region 25 with fail
              clear BAc BAf BAl
              refine wp_absQ (fun W => PAt w W A R g cw ch 0 y t0 (b'.take 0 ++ b'.drop cw ++ b'.drop (0 + (b'.drop cw).length))) V4 (fun W4 V4 => ?_)
              clear hcp
              have hcm : ¬ cap = m := by have := HM.out; omega
              have hcm2 : m ≤ cap := by omega
              obtain ⟨b1, hb1⟩ : ∃ b1, b'.take 0 ++ b'.drop cw ++ b'.drop (0 + (b'.drop cw).length) = b1 := ⟨_, rfl⟩
              rw [hb1] at V4
              have hb1l : b1.length = n := by rw [← hb1]; simp; omega
              have HB1 := Lib.hid hb1
              obtain ⟨bl, hbl2⟩ : ∃ bl, txt (List.replicate cw 32) = bl := ⟨_, rfl⟩
              have hbls : bl.size = cw := by rw [← hbl2, txt_size, List.length_replicate]
              have hrep := fun W => rep_any cw W (by omega)
              rw [hbl2] at hrep
              have HREP := Lib.hid hrep
              have HBL := Lib.hid hbl2
              have BAw := V4.BA
              clear hrep hbl2 hb1
              refine wp_region_typed 10 (fun k => match k with  | _ => []) (fun k => match k with  | _ => false) (fun k => match k with | 9 => some ⟨(Unit), (()), (fun _ => .string bl), (fun _ _ => True), (fun _ _ _ h _ => h)⟩ | _ => none) (by kernel_rfl) (by kernel_rfl) (by intro d0 v0 c0 a0 w0 h0; cases d0 <;> exact h0) ?_
              rw [show List.range 10 = [0, 1, 2, 3, 4, 5, 6, 7, 8, 9] from rfl]
              first
                | (refine ty_skip rfl rfl ?_; (try simp only [Act.put, List.setIfInBounds_toArray, List.set_cons_zero, List.set_cons_succ]))
                | (refine ty_pure rfl rfl rfl rfl ?_; apply Exists.intro; refine ⟨fun wq hq hk => ?_, ?_⟩
                   · have f0 := hq.blk BAw; simp only [pureAt]; go_simp; (try simp only [↓IntWalk.iteOmega]); (try go_bits); (try simp only [pureUpon]); (first | done | exact ⟨rfl, rfl⟩ | exact ⟨trivial, rfl⟩ | rfl)
                   (try simp only [Act.put, List.setIfInBounds_toArray, List.set_cons_zero, List.set_cons_succ]))
              first
                | (refine ty_skip rfl rfl ?_; (try simp only [Act.put, List.setIfInBounds_toArray, List.set_cons_zero, List.set_cons_succ]))
                | (refine ty_pure rfl rfl rfl rfl ?_; apply Exists.intro; refine ⟨fun wq hq hk => ?_, ?_⟩
                   · have f0 := hq.blk BAw; simp only [pureAt]; go_simp; (try simp only [↓IntWalk.iteOmega]); (try go_bits); (try simp only [pureUpon]); (first | done | exact ⟨rfl, rfl⟩ | exact ⟨trivial, rfl⟩ | rfl)
                   (try simp only [Act.put, List.setIfInBounds_toArray, List.set_cons_zero, List.set_cons_succ]))
              first
                | (refine ty_skip rfl rfl ?_; (try simp only [Act.put, List.setIfInBounds_toArray, List.set_cons_zero, List.set_cons_succ]))
                | (refine ty_pure rfl rfl rfl rfl ?_; apply Exists.intro; refine ⟨fun wq hq hk => ?_, ?_⟩
                   · have f0 := hq.blk BAw; simp only [pureAt]; go_simp; (try simp only [↓IntWalk.iteOmega]); (try go_bits); (try simp only [pureUpon]); (first | done | exact ⟨rfl, rfl⟩ | exact ⟨trivial, rfl⟩ | rfl)
                   (try simp only [Act.put, List.setIfInBounds_toArray, List.set_cons_zero, List.set_cons_succ]))
              first
                | (refine ty_skip rfl rfl ?_; (try simp only [Act.put, List.setIfInBounds_toArray, List.set_cons_zero, List.set_cons_succ]))
                | (refine ty_pure rfl rfl rfl rfl ?_; apply Exists.intro; refine ⟨fun wq hq hk => ?_, ?_⟩
                   · have f0 := hq.blk BAw; simp only [pureAt]; go_simp; (try simp only [↓IntWalk.iteOmega]); (try go_bits); (try simp only [pureUpon]); (first | done | exact ⟨rfl, rfl⟩ | exact ⟨trivial, rfl⟩ | rfl)
                   (try simp only [Act.put, List.setIfInBounds_toArray, List.set_cons_zero, List.set_cons_succ]))
              first
                | (refine ty_skip rfl rfl ?_; (try simp only [Act.put, List.setIfInBounds_toArray, List.set_cons_zero, List.set_cons_succ]))
                | (refine ty_pure rfl rfl rfl rfl ?_; apply Exists.intro; refine ⟨fun wq hq hk => ?_, ?_⟩
                   · have f0 := hq.blk BAw; simp only [pureAt]; go_simp; (try simp only [↓IntWalk.iteOmega]); (try go_bits); (try simp only [pureUpon]); (first | done | exact ⟨rfl, rfl⟩ | exact ⟨trivial, rfl⟩ | rfl)
                   (try simp only [Act.put, List.setIfInBounds_toArray, List.set_cons_zero, List.set_cons_succ]))
              first
                | (refine ty_skip rfl rfl ?_; (try simp only [Act.put, List.setIfInBounds_toArray, List.set_cons_zero, List.set_cons_succ]))
                | (refine ty_pure rfl rfl rfl rfl ?_; apply Exists.intro; refine ⟨fun wq hq hk => ?_, ?_⟩
                   · have f0 := hq.blk BAw; simp only [pureAt]; go_simp; (try simp only [↓IntWalk.iteOmega]); (try go_bits); (try simp only [pureUpon]); (first | done | exact ⟨rfl, rfl⟩ | exact ⟨trivial, rfl⟩ | rfl)
                   (try simp only [Act.put, List.setIfInBounds_toArray, List.set_cons_zero, List.set_cons_succ]))
              first
                | (refine ty_skip rfl rfl ?_; (try simp only [Act.put, List.setIfInBounds_toArray, List.set_cons_zero, List.set_cons_succ]))
                | (refine ty_pure rfl rfl rfl rfl ?_; apply Exists.intro; refine ⟨fun wq hq hk => ?_, ?_⟩
                   · have f0 := hq.blk BAw; simp only [pureAt]; go_simp; (try simp only [↓IntWalk.iteOmega]); (try go_bits); (try simp only [pureUpon]); (first | done | exact ⟨rfl, rfl⟩ | exact ⟨trivial, rfl⟩ | rfl)
                   (try simp only [Act.put, List.setIfInBounds_toArray, List.set_cons_zero, List.set_cons_succ]))
              first
                | (refine ty_skip rfl rfl ?_; (try simp only [Act.put, List.setIfInBounds_toArray, List.set_cons_zero, List.set_cons_succ]))
                | (refine ty_pure rfl rfl rfl rfl ?_; apply Exists.intro; refine ⟨fun wq hq hk => ?_, ?_⟩
                   · have f0 := hq.blk BAw; simp only [pureAt]; go_simp; (try simp only [↓IntWalk.iteOmega]); (try go_bits); (try simp only [pureUpon]); (first | done | exact ⟨rfl, rfl⟩ | exact ⟨trivial, rfl⟩ | rfl)
                   (try simp only [Act.put, List.setIfInBounds_toArray, List.set_cons_zero, List.set_cons_succ]))
              first
                | (refine ty_skip rfl rfl ?_; (try simp only [Act.put, List.setIfInBounds_toArray, List.set_cons_zero, List.set_cons_succ]))
                | (refine ty_pure rfl rfl rfl rfl ?_; apply Exists.intro; refine ⟨fun wq hq hk => ?_, ?_⟩
                   · have f0 := hq.blk BAw; simp only [pureAt]; go_simp; (try simp only [↓IntWalk.iteOmega]); (try go_bits); (try simp only [pureUpon]); (first | done | exact ⟨rfl, rfl⟩ | exact ⟨trivial, rfl⟩ | rfl)
                   (try simp only [Act.put, List.setIfInBounds_toArray, List.set_cons_zero, List.set_cons_succ]))
              refine ty_rel rfl rfl _ rfl rfl (fun wq hq hk => ?_) ?_
              · have f0 := hq.blk BAw; simp only [relAt]; go_simp; (try simp only [relUpon]); (go_at_call 33; refine (HREP.out _).mono ?_; rintro e w9 ⟨rfl, hb9⟩; exact ⟨_, rfl, .mk hb9 () rfl trivial⟩)
              rintro ⟨⟩
              (try simp only [Act.put, List.setIfInBounds_toArray, List.set_cons_zero, List.set_cons_succ])
              refine ty_nil ?_
              simp only [List.drop_succ_cons, List.drop_zero]
              intro W8 hw8 hΓ
              have V8 := V4.below hw8.out
              clear hΓ hw8 V4 BAw
              have hcs := run_copy_string (P := Try.prog) W8 34 9 3 5 g m (n - m) (cap - m) bl Try.underlying34 Try.sizeOf5 (by have := HM.out; omega) (fun j hj => by rw [V8.row.cell _ (by have := HM.out; omega)]; rfl) (fun j hj => V8.row.frz _ (by have := HM.out; omega))
              have V9 : PAt w (W8.setCells g m (bl.data.toList.map fun x => Value.int .u8 (x.toNat : Int))) A R g cw ch 0 y t0 (b'.drop cw ++ List.replicate cw 32) := by
                have h := V8.sets m (List.replicate cw 32) (by rw [hb1l, List.length_replicate]; have := HM.out; omega)
                have e := scroll_row b' m cw (hbl.trans HM.out.symm)
                rw [HB1.out] at e
                rw [e] at h
                rw [← HBL.out]
                exact h
              clear V8
              go_wp2_with fail
              go_roundg k
              case rel =>
                refine ⟨j + 1, g, cap, put1 S c, rfl, hcap, by simp, by have := HJ.out; omega, HS'.out, ?_⟩
                rw [HP.out]
                exact V9
              case measure => omega
        · have n10 : ¬ (c.toNat : Int) = 10 := by omega
          have hput : put1 S c = S := by unfold put1; rw [if_neg hp, if_neg h13, if_neg h8, if_neg h12, if_neg h10]
          have HP := Lib.hid hput
          rw [← hx, ← hy] at V1
          clear hput hp hx hy
          go_wp2_with fail
          go_roundg k
          case rel =>
            refine ⟨j + 1, g, cap, put1 S c, rfl, hcap, by simp, by have := HJ.out; omega, HS'.out, ?_⟩
            rw [HP.out]
            exact V1
          case measure => omega
end Go.Proofs.Ytgdmeaoghhkknaa
