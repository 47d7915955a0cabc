/- The document's deltas: Of. -/
import Derived.Test.YtgdmeaoghhkknaaDel8
namespace Go.Proofs.Ytgdmeaoghhkknaa
open Go.RowKit

structure RO (w wr : World) (c1 c2 : Array Value) (b1 o1 b2 o2 : Nat) (r1 r2 : List ByteArray) : Prop where
  HB : Below w.heap.size w wr
  B1 : Blk wr w.heap.size c1 41
  B2 : Blk wr (w.heap.size + 1) c2 41
  R1 : RowAt wr b1 o1 r1
  R2 : RowAt wr b2 o2 r2
theorem RO.below {w wr w' : World} {c1 c2 : Array Value} {b1 o1 b2 o2 : Nat} {r1 r2 : List ByteArray} (h : RO w wr c1 c2 b1 o1 b2 o2 r1 r2) (hb : Below wr.heap.size wr w') : RO w w' c1 c2 b1 o1 b2 o2 r1 r2 :=
  ⟨Below.thn h.HB hb h.HB.size, h.B1.below hb, h.B2.below hb, h.R1.below hb, h.R2.below hb⟩

set_option maxHeartbeats 4000000 in
set_option maxRecDepth 20000 in
theorem rof_other' (sw sh sx sy tw th tx ty : Int) (v1 v2 : Value) (q r : ByteArray) (w : World) (hv1 : ∃ b o n c, v1 = .slice (some ⟨b, o, none⟩) n c) (hv2 : ∃ b o n c, v2 = .slice (some ⟨b, o, none⟩) n c) (hT : ∀ W, Below w.heap.size w W → Calls Try.prog 23 #[RV tw th tx ty v2] W fun e w' => e = .returned (.string q) ∧ Below W.heap.size W w')
    (radd : ∀ W, (Op.stringOp .add ⟨#[102]⟩ q).run Try.prog W = .ok (.string r) W) (hd : sw ≠ tw ∨ sh ≠ th) :
    Calls Try.prog 30 #[RV sw sh sx sy v1, RV tw th tx ty v2] w fun e w' => e = .returned (.string r) ∧ Below w.heap.size w w' := by
  have CT := Lib.hid hT
  obtain ⟨a1, a2, a3, a4, rfl⟩ := hv1
  obtain ⟨d1, d2, d3, d4, rfl⟩ := hv2
  clear hT
  by_cases h1 : sw = tw
  · have h2 : ¬ sh = th := by omega
    subst h1
    clear hd
    go_enter Try.func30, Try.ntmps30
    go_wp2_with fail
    refine (CT.out _ (by (repeat (first | (with_reducible assumption) | (with_reducible exact Below.refl _ _) | with_reducible apply bl_drewN | with_reducible apply Below.drew | (with_reducible apply bl_alloc; focus (first | (simp; done) | (simp; omega) | omega)) | (with_reducible apply bl_set; focus (first | (simp; done) | (simp; omega) | omega)))))).mono ?_
    rintro e wc ⟨rfl, hb⟩
    have HBc : Below w.heap.size w wc := Below.thn (by (repeat (first | (with_reducible assumption) | (with_reducible exact Below.refl _ _) | with_reducible apply bl_drewN | with_reducible apply Below.drew | (with_reducible apply bl_alloc; focus (first | (simp; done) | (simp; omega) | omega)) | (with_reducible apply bl_set; focus (first | (simp; done) | (simp; omega) | omega))))) hb
    go_wp2_with fail
    go_ret
    exact ⟨rfl, HBc⟩
  · clear hd
    go_enter Try.func30, Try.ntmps30
    go_wp2_with fail
    refine (CT.out _ (by (repeat (first | (with_reducible assumption) | (with_reducible exact Below.refl _ _) | with_reducible apply bl_drewN | with_reducible apply Below.drew | (with_reducible apply bl_alloc; focus (first | (simp; done) | (simp; omega) | omega)) | (with_reducible apply bl_set; focus (first | (simp; done) | (simp; omega) | omega)))))).mono ?_
    rintro e wc ⟨rfl, hb⟩
    have HBc : Below w.heap.size w wc := Below.thn (by (repeat (first | (with_reducible assumption) | (with_reducible exact Below.refl _ _) | with_reducible apply bl_drewN | with_reducible apply Below.drew | (with_reducible apply bl_alloc; focus (first | (simp; done) | (simp; omega) | omega)) | (with_reducible apply bl_set; focus (first | (simp; done) | (simp; omega) | omega))))) hb
    go_wp2_with fail
    go_ret
    exact ⟨rfl, HBc⟩

set_option maxHeartbeats 16000000 in
set_option maxRecDepth 20000 in
theorem rof_same (s t : Scr) (b1 o1 c1 b2 o2 c2 : Nat) (w : World) (hs : s.Ok) (ht : t.Ok) (hw : t.w = s.w) (hh : t.h = s.h)
    (hc1 : s.h ≤ c1) (hc2 : s.h ≤ c2) (hr1 : RowAt w b1 o1 (rowsL (txt s.b) s.w s.h)) (hr2 : RowAt w b2 o2 (rowsL (txt t.b) s.w s.h)) :
    Calls Try.prog 30 #[RV s.w s.h s.x s.y (.slice (some ⟨b1, o1, none⟩) s.h c1), RV s.w s.h t.x t.y (.slice (some ⟨b2, o2, none⟩) s.h c2)] w fun e w' => e = .returned (.string ⟨(ofL s t).toArray⟩) ∧ Below w.heap.size w w' := by
  have hof : ofL s t = [100, UInt8.ofNat t.x, UInt8.ofNat t.y] ++ encF s.w s.b t.b 0 s.h := by unfold ofL; rw [if_neg (by omega)]
  have hlen := (ofL_len s t hs ht hw hh).2
  have hcl := cnt_le s.b t.b
  have hn := wh_small hs.w2 hs.h2
  rw [hs.len] at hcl
  have hlen2 : (ofL s t).length ≤ 8000 := by omega
  obtain ⟨cw, hcw⟩ : ∃ k, s.w = k := ⟨_, rfl⟩
  obtain ⟨ch, hch⟩ : ∃ k, s.h = k := ⟨_, rfl⟩
  have w1 : 1 ≤ cw := by rw [← hcw]; exact hs.w1
  have w2 : cw ≤ 80 := by rw [← hcw]; exact hs.w2
  have h1 : 1 ≤ ch := by rw [← hch]; exact hs.h1
  have h2 : ch ≤ 24 := by rw [← hch]; exact hs.h2
  have hxl := ht.x; have hyl := ht.y
  have hsl := hs.len; have htl := ht.len
  rw [hw, hcw] at hxl; rw [hh, hch] at hyl
  rw [hw, hh, hcw, hch] at htl; rw [hcw, hch] at hsl
  rw [hcw, hch] at hof hr1 hr2
  rw [hch] at hc1 hc2
  rw [hcw, hch]
  obtain ⟨x, hx⟩ : ∃ k, t.x = k := ⟨_, rfl⟩
  obtain ⟨y, hy⟩ : ∃ k, t.y = k := ⟨_, rfl⟩
  rw [hx, hy] at hof ⊢
  rw [hx] at hxl; rw [hy] at hyl
  obtain ⟨sb, hsb⟩ : ∃ k, s.b = k := ⟨_, rfl⟩
  obtain ⟨tb, htb⟩ : ∃ k, t.b = k := ⟨_, rfl⟩
  rw [hsb, htb] at hof
  rw [hsb] at hsl hr1; rw [htb] at htl hr2
  obtain ⟨TOT, hTOT⟩ : ∃ k, ofL s t = k := ⟨_, rfl⟩
  rw [hTOT] at hof hlen2 ⊢
  obtain ⟨sx, hsx⟩ : ∃ k, s.x = k := ⟨_, rfl⟩
  obtain ⟨sy, hsy⟩ : ∃ k, s.y = k := ⟨_, rfl⟩
  rw [hsx, hsy]
  clear hlen hcl hn hcw hch hx hy hsb htb hTOT hsx hsy hw hh hs ht
  have HOF := Lib.hid hof
  have HSL := Lib.hid hsl; have HTL := Lib.hid htl
  have HL := Lib.hid hlen2
  have HR := Lib.hid (And.intro hr1 hr2)
  have hl1 := hr1.lt; have hl2 := hr2.lt
  clear hof hsl htl hlen2 hr1 hr2
  obtain ⟨C1, hC1⟩ : ∃ c : Array Value, c = #[.int .i64 cw, .int .i64 ch, .int .i64 sx, .int .i64 sy, .slice (some ⟨b1, o1, none⟩) ch c1] := ⟨_, rfl⟩
  obtain ⟨C2, hC2⟩ : ∃ c : Array Value, c = #[.int .i64 cw, .int .i64 ch, .int .i64 x, .int .i64 y, .slice (some ⟨b2, o2, none⟩) ch c2] := ⟨_, rfl⟩
  go_enter Try.func30, Try.ntmps30
  go_upto_region 3 with fail
  refine wp_absQ (fun W => RO w W C1 C2 b1 o1 b2 o2 (rowsL (txt sb) cw ch) (rowsL (txt tb) cw ch)) ⟨by (repeat (first | (with_reducible assumption) | (with_reducible exact Below.refl _ _) | with_reducible apply bl_drewN | with_reducible apply Below.drew | (with_reducible apply bl_alloc; focus (first | (simp; done) | (simp; omega) | omega)) | (with_reducible apply bl_set; focus (first | (simp; done) | (simp; omega) | omega)))), by rw [hC1]; (repeat (first | (with_reducible assumption) | (with_reducible apply Blk.new'; (first | (with_reducible rfl) | (simp; done))) | with_reducible apply Blk.alloc | with_reducible apply Blk.set | ((with_reducible apply Blk.set_ne); focus (first | (simp; done) | (simp; omega))) | with_reducible apply Blk.drewN | with_reducible apply Blk.drew)), by rw [hC2]; (repeat (first | (with_reducible assumption) | (with_reducible apply Blk.new'; (first | (with_reducible rfl) | (simp; done))) | with_reducible apply Blk.alloc | with_reducible apply Blk.set | ((with_reducible apply Blk.set_ne); focus (first | (simp; done) | (simp; omega))) | with_reducible apply Blk.drewN | with_reducible apply Blk.drew)), HR.out.1.below (by (repeat (first | (with_reducible assumption) | (with_reducible exact Below.refl _ _) | with_reducible apply bl_drewN | with_reducible apply Below.drew | (with_reducible apply bl_alloc; focus (first | (simp; done) | (simp; omega) | omega)) | (with_reducible apply bl_set; focus (first | (simp; done) | (simp; omega) | omega))))), HR.out.2.below (by (repeat (first | (with_reducible assumption) | (with_reducible exact Below.refl _ _) | with_reducible apply bl_drewN | with_reducible apply Below.drew | (with_reducible apply bl_alloc; focus (first | (simp; done) | (simp; omega) | omega)) | (with_reducible apply bl_set; focus (first | (simp; done) | (simp; omega) | omega)))))⟩ (fun W1 V1 => ?_)
  subst hC1 hC2
  have HB1s := V1.HB.size
  have B2c := V1.B2.cell; have B2l := V1.B2.lt
  obtain ⟨q2, hq2⟩ : ∃ r : ByteArray, r = ⟨#[UInt8.ofNat x, UInt8.ofNat y]⟩ := ⟨_, rfl⟩
  have hcv : (convert 34 9 (.slice (some ⟨W1.heap.size, 0, none⟩) 2 2)).run Try.prog (W1.alloc (.cells #[.int .u8 x, .int .u8 y] 5)) = .ok (.string q2) (W1.alloc (.cells #[.int .u8 x, .int .u8 y] 5)) := by
    rw [hq2]
    exact Lib.run_convert_whole (P := Try.prog) _ 34 5 9 Try.underlying34 Try.underlying5 Try.underlying9 W1.heap.size 0 _ (row_bytes (row_two (by omega) (by omega) (by (repeat (first | (with_reducible assumption) | (with_reducible apply Blk.new'; (first | (with_reducible rfl) | (simp; done))) | with_reducible apply Blk.alloc | with_reducible apply Blk.set | ((with_reducible apply Blk.set_ne); focus (first | (simp; done) | (simp; omega))) | with_reducible apply Blk.drewN | with_reducible apply Blk.drew))))) 2
  obtain ⟨q3, hq3⟩ : ∃ r : ByteArray, ⟨#[100]⟩ ++ q2 = r := ⟨_, rfl⟩
  have radd : ∀ W, (Op.stringOp .add ⟨#[100]⟩ q2).run Try.prog W = .ok (.string q3) W := fun W => by rw [← hq3]; exact run_string_add_sum W _ _ (by rw [hq2]; show 1 + 2 ≤ _; omega)
  have hq3l : q3.data.toList = [100, UInt8.ofNat x, UInt8.ofNat y] := by rw [← hq3, ba_app, hq2]; rfl
  have HQ3 := Lib.hid hq3l
  clear hq2 hq3 hq3l
  go_upto_region 4 with fail
  refine wp_absQ (fun W => RO w W _ _ b1 o1 b2 o2 (rowsL (txt sb) cw ch) (rowsL (txt tb) cw ch)) (V1.below (by (repeat (first | (with_reducible assumption) | (with_reducible exact Below.refl _ _) | with_reducible apply bl_drewN | with_reducible apply Below.drew | (with_reducible apply bl_alloc; focus (first | (simp; done) | (simp; omega) | omega)) | (with_reducible apply bl_set; focus (first | (simp; done) | (simp; omega) | omega)))))) (fun W2 V2 => ?_)
  clear V1 HB1s B2c B2l hcv radd
  go_wp2_with fail
  go_loopg [5, 6] ch (fun g t5 t6 wr => ∃ (j : Nat) (acc : ByteArray), t5 = .string acc ∧ t6 = .int .i64 j ∧ j + g = ch ∧ acc.data.toList ++ encF cw sb tb j g = TOT ∧ RO w wr #[.int .i64 cw, .int .i64 ch, .int .i64 sx, .int .i64 sy, .slice (some ⟨b1, o1, none⟩) ch c1] #[.int .i64 cw, .int .i64 ch, .int .i64 x, .int .i64 y, .slice (some ⟨b2, o2, none⟩) ch c2] b1 o1 b2 o2 (rowsL (txt sb) cw ch) (rowsL (txt tb) cw ch))
  case atStart => exact ⟨0, q3, rfl, rfl, by omega, by rw [HQ3.out]; exact HOF.out.symm, V2⟩
  case round =>
    clear V2
    obtain ⟨j, acc, rfl, rfl, hj, hout, V⟩ := hrel
    have HBs := V.HB.size
    have B1c := V.B1.cell; have B1l := V.B1.lt
    have HJ := Lib.hid hj
    cases gk with
    | zero =>
      have hj' : ¬ (j : Int) < ch := by omega
      have he : acc = ⟨TOT.toArray⟩ := by apply ba_ext; rw [← hout]; simp [encF]
      subst he
      have HV := V.HB
      clear hj hout
      go_wp2_with fail
      go_ret
      exact ⟨rfl, HV⟩
    | succ g =>
      have hj' : (j : Int) < ch := by omega
      have hjl : j < ch := by omega
      clear hj
      obtain ⟨ra, hra⟩ : ∃ r, (txt sb).extract (j * cw) ((j + 1) * cw) = r := ⟨_, rfl⟩
      obtain ⟨rb, hrb⟩ : ∃ r, (txt tb).extract (j * cw) ((j + 1) * cw) = r := ⟨_, rfl⟩
      have hral : ra.data.toList = rowOf sb cw j := by rw [← hra, rowOf_txt]
      have hrbl : rb.data.toList = rowOf tb cw j := by rw [← hrb, rowOf_txt]
      have hras : ra.size = cw := by show ra.data.toList.length = cw; rw [hral]; exact rowOf_len HSL.out hjl
      have hrbs : rb.size = cw := by show rb.data.toList.length = cw; rw [hrbl]; exact rowOf_len HTL.out hjl
      have hca : ∀ W c1 c2, RO w W c1 c2 b1 o1 b2 o2 (rowsL (txt sb) cw ch) (rowsL (txt tb) cw ch) → W.cell? ⟨b1, o1 + j, none⟩ = some (Value.string ra) := fun W _ _ h => by rw [h.R1.cell j (by rw [rowsL_length]; exact hjl), rowsL_get _ _ _ _ hjl, hra]
      have hcb : ∀ W c1 c2, RO w W c1 c2 b1 o1 b2 o2 (rowsL (txt sb) cw ch) (rowsL (txt tb) cw ch) → W.cell? ⟨b2, o2 + j, none⟩ = some (Value.string rb) := fun W _ _ h => by rw [h.R2.cell j (by rw [rowsL_length]; exact hjl), rowsL_get _ _ _ _ hjl, hrb]
      rw [encF, ← hral, ← hrbl] at hout
      obtain ⟨REST, hREST⟩ : ∃ R, encF cw sb tb (j + 1) g = R := ⟨_, rfl⟩
      rw [hREST] at hout
      have HREST := Lib.hid hREST
      have HCA := Lib.hid hca; have HCB := Lib.hid hcb
      have HRS := Lib.hid (And.intro hras hrbs)
      clear hra hrb hral hrbl hca hcb hREST hras hrbs
      go_wp2_with fail
      go_loopg [5, 7] cw (fun g2 t5 t7 wx => ∃ (kc : Nat) (acc : ByteArray), t5 = .string acc ∧ t7 = .int .i64 kc ∧ g2 = cw - kc ∧ kc ≤ cw + 1 ∧ acc.data.toList ++ (encR j kc ra.data.toList rb.data.toList (cw - kc) ++ REST) = TOT ∧ RO w wx #[.int .i64 cw, .int .i64 ch, .int .i64 sx, .int .i64 sy, .slice (some ⟨b1, o1, none⟩) ch c1] #[.int .i64 cw, .int .i64 ch, .int .i64 x, .int .i64 y, .slice (some ⟨b2, o2, none⟩) ch c2] b1 o1 b2 o2 (rowsL (txt sb) cw ch) (rowsL (txt tb) cw ch))
      case atStart => exact ⟨0, acc, rfl, rfl, by omega, by omega, hout, V⟩
      case round =>
        clear V HBs B1c B1l hout
        obtain ⟨kc, ac2, rfl, rfl, hg2, hk, hout, V⟩ := hrel
        have HBs := V.HB.size
        have B1c := V.B1.cell; have B1l := V.B1.lt
        have HG := Lib.hid hg2
        by_cases hkc : (kc : Int) < cw
        · have hkl : kc < cw := by omega
          obtain ⟨m, hm⟩ : ∃ m, cw - kc = m + 1 := ⟨cw - kc - 1, by omega⟩
          rw [hm] at hout
          have HM := Lib.hid hm
          have HOUT := Lib.hid hout
          clear hg2 hm hout
          have hdl : ∀ (r : ByteArray) (i : Nat), r.size = cw → kc + i < cw → (r.data.toList.drop kc).getD i 0 = r.data.toList.getD (kc + i) 0 := fun r i _ _ => by
            rw [List.getD_eq_getElem?_getD, List.getElem?_drop, ← List.getD_eq_getElem?_getD]
          have HDL := Lib.hid hdl
          clear hdl
          go_wp2_with fail
          go_loopg [8] (cw - kc) (fun g3 t8 wy => ∃ nn : Nat, t8 = .int .i64 nn ∧ g3 = cw - (kc + nn) ∧ kc + nn ≤ cw ∧ (∀ i, i < nn → (ra.data.toList.drop kc).getD i 0 ≠ (rb.data.toList.drop kc).getD i 0) ∧ RO w wy #[.int .i64 cw, .int .i64 ch, .int .i64 sx, .int .i64 sy, .slice (some ⟨b1, o1, none⟩) ch c1] #[.int .i64 cw, .int .i64 ch, .int .i64 x, .int .i64 y, .slice (some ⟨b2, o2, none⟩) ch c2] b1 o1 b2 o2 (rowsL (txt sb) cw ch) (rowsL (txt tb) cw ch))
          case atStart => exact ⟨0, rfl, by omega, by omega, fun i hi => absurd hi (Nat.not_lt_zero i), V⟩
          case round =>
            clear V HBs B1c B1l
            obtain ⟨nn, rfl, hg3, hnn, hdif, V⟩ := hrel
            have HBs := V.HB.size
            have QB1 := V.B1; have QB2 := V.B2
            have QC1 := HCA.out _ _ _ V; have QC2 := HCB.out _ _ _ V
            have HG3 := Lib.hid hg3
            have HDIF := Lib.hid hdif
            obtain ⟨mm, hmm⟩ : ∃ k, kc + nn = k := ⟨_, rfl⟩
            have hsum : (kc : Int) + (nn : Int) = (mm : Int) := by omega
            have HMM := Lib.hid hmm
            have L1 := V.R1.lt; have L2 := V.R2.lt
            by_cases hin : mm < cw
            · have hina : mm < ra.size := by rw [HRS.out.1]; exact hin
              have hinb : mm < rb.size := by rw [HRS.out.2]; exact hin
              have kina : (mm : Int) < ra.size := by omega
              have kinb : (mm : Int) < rb.size := by omega
              have q1 : decide (mm < cw) = true := decide_eq_true hin
              have q2 : decide ((nn : Int) < 255) = true := decide_eq_true (by omega)
              have q3 : decide (nn < 255) = true := decide_eq_true (by omega)
              obtain ⟨u, hu⟩ : ∃ c, ra[mm] = c := ⟨_, rfl⟩
              obtain ⟨v, hv⟩ : ∃ c, rb[mm] = c := ⟨_, rfl⟩
              have hgu : (ra.data.toList.drop kc).getD nn 0 = u := by rw [HDL.out ra nn HRS.out.1 (by omega), hmm, ba_getD ra mm hina, hu]
              have hgv : (rb.data.toList.drop kc).getD nn 0 = v := by rw [HDL.out rb nn HRS.out.2 (by omega), hmm, ba_getD rb mm hinb, hv]
              by_cases huv : u = v
              · have hrun : runL (ra.data.toList.drop kc) (rb.data.toList.drop kc) = nn := runL_eq _ _ nn (by rw [List.length_drop, List.length_drop]; have e1 : ra.data.toList.length = cw := HRS.out.1; have e2 : rb.data.toList.length = cw := HRS.out.2; omega) (by rw [List.length_drop]; have e1 : ra.data.toList.length = cw := HRS.out.1; omega) hdif (.inr (by rw [hgu, hgv]; exact huv))
                have HRUN := Lib.hid hrun
                have q4 : ((u.toNat : Int) != (v.toNat : Int)) = false := by simp [huv]
                have q5 : ((u.toNat) != (v.toNat)) = false := by simp [huv]
                clear hg3 hdif hmm hgu hgv huv hrun
                go_wp2_with fail
                refine wp_region_gr (by kernel_rfl) (by kernel_rfl) ?_
                repeat (first
                  | go_big_quiet_skip
                  | ((refine BigFrame.wpQuiet_want rfl (fun K hK => quiet_mk ?_)); apply Exists.intro; refine ⟨fun wq hq => ?_, hK _ ?_⟩
                     · have f0 := hq.blk QB1; have f1 := hq.blk QB2; have f2 := hq.cell QC1; have f3 := hq.cell QC2; go_simp; (try simp only [↓IntWalk.iteOmega]); (try go_bits)
                       first | done | rfl | exact ⟨rfl, rfl⟩ | exact ⟨trivial, rfl⟩
                     clear hK K; (try simp only [Act.put, List.setIfInBounds_toArray, List.set_cons_zero, List.set_cons_succ])))
                refine wpQuiet_nil ?_
                intro W4 hw4
                have V4 := V.below hw4.out
                clear V hw4 HBs QB1 QB2 QC1 QC2 L1 L2
                by_cases h0 : nn = 0
                · subst h0
                  have hmk := HMM.out
                  rw [Nat.add_zero] at hmk
                  subst hmk
                  have h9 := HOUT.out
                  rw [encR_same _ _ _ _ _ HRUN.out] at h9
                  have H9 := Lib.hid h9
                  clear h9
                  go_wp2_with fail
                  go_roundg (cw - (kc + 1))
                  case rel => exact ⟨kc + 1, ac2, rfl, by simp, rfl, by omega, by rw [show cw - (kc + 1) = m by have := HM.out; omega]; exact H9.out, V4⟩
                  case measure => have := HM.out; have := HG.out; omega
                · have h0i : (0 : Int) < nn := by omega
                  have h9 := HOUT.out
                  rw [encR_run _ _ _ _ _ _ HRUN.out h0] at h9
                  have hmle : mm ≤ cw := by have := HMM.out; omega
                  have hkm : (kc : Int) ≤ (mm : Int) := by omega
                  have hmb : (mm : Int) ≤ rb.size := by rw [HRS.out.2]; omega
                  have hn255 : nn ≤ 255 := by omega
                  have hk255 : kc ≤ 255 := by omega
                  have hj255 : j ≤ 255 := by omega
                  obtain ⟨q, hq⟩ : ∃ r : ByteArray, r = ⟨#[UInt8.ofNat j, UInt8.ofNat kc, UInt8.ofNat nn]⟩ := ⟨_, rfl⟩
                  have hcv : ∀ (W : World) (b : Nat), Blk W b #[.int .u8 j, .int .u8 kc, .int .u8 nn] 5 → (convert 34 9 (.slice (some ⟨b, 0, none⟩) 3 3)).run Try.prog W = .ok (.string q) W := fun W b B => by
                    rw [hq]
                    exact Lib.run_convert_whole (P := Try.prog) W 34 5 9 Try.underlying34 Try.underlying5 Try.underlying9 b 0 _ (row_bytes (row_three (by omega) (by omega) (by omega) B)) 3
                  obtain ⟨q4, hq4⟩ : ∃ r, ac2 ++ q = r := ⟨_, rfl⟩
                  obtain ⟨q5, hq5⟩ : ∃ r, q4 ++ rb.extract kc mm = r := ⟨_, rfl⟩
                  have hq5l : q5.data.toList = ac2.data.toList ++ ([UInt8.ofNat j, UInt8.ofNat kc, UInt8.ofNat nn] ++ (rb.data.toList.drop kc).take nn) := by
                    rw [← hq5, ba_app, ← hq4, ba_app, hq, ba_extract, show mm - kc = nn by have := HMM.out; omega, List.append_assoc]
                  have hacl : ac2.size ≤ 8000 := by
                    have h6 : TOT.length ≤ 8000 := HL.out
                    rw [← h9] at h6
                    have h7 : ac2.data.toList.length = ac2.size := rfl
                    simp only [List.length_append] at h6
                    omega
                  have hqs : q.size = 3 := by rw [hq]; rfl
                  have radd1 : ∀ W, (Op.stringOp .add ac2 q).run Try.prog W = .ok (.string q4) W := fun W => by
                    rw [← hq4]; exact run_string_add_sum W _ _ (by omega)
                  have radd2 : ∀ W, (Op.stringOp .add q4 (rb.extract kc mm)).run Try.prog W = .ok (.string q5) W := fun W => by
                    rw [← hq5]; exact run_string_add_sum W _ _ (by rw [ByteArray.size_extract, ← hq4, ByteArray.size_append]; omega)
                  have h10 : q5.data.toList ++ (encR j (kc + nn + 1) ra.data.toList rb.data.toList (m - nn) ++ REST) = TOT := by
                    rw [hq5l, ← h9]; simp only [List.append_assoc]
                  have H10 := Lib.hid h10
                  have HCV := Lib.hid hcv; have RADD1 := Lib.hid radd1; have RADD2 := Lib.hid radd2
                  have QB2 := V4.B2
                  have QC2 := HCB.out _ _ _ V4
                  have L2 := V4.R2.lt
                  clear h9 hcv radd1 radd2 hq hq4 hq5 hq5l hacl hqs h10
                  go_wp2_with fail
                  refine wp_region_typed 21 (fun k => match k with | 8 => [7] | _ => []) (fun k => match k with  | _ => false) (fun k => match k with | 7 => some ⟨(Nat), (0), (fun b => .slice (some ⟨b, 0, none⟩) 3 3), (fun b w => Blk w b #[.int .u8 j, .int .u8 kc, .int .u8 nn] 5), (fun b w w' h hb => h.below hb)⟩ | 8 => some ⟨(Unit), (()), (fun _ => .string q), (fun _ _ => True), (fun _ _ _ h _ => h)⟩ | 9 => some ⟨(Unit), (()), (fun _ => .string q4), (fun _ _ => True), (fun _ _ _ h _ => h)⟩ | 20 => some ⟨(Unit), (()), (fun _ => .string q5), (fun _ _ => True), (fun _ _ _ h _ => h)⟩ | _ => none) (by kernel_rfl) (by kernel_rfl) (by intro d0 v0 c0 a0 w0 h0; cases d0 <;> exact h0) ?_
                  rw [show List.range 21 = [0, 1, 2, 3, 4, 5, 6, 7, 8, 9, 10, 11, 12, 13, 14, 15, 16, 17, 18, 19, 20] from rfl]
                  first
                    | (refine ty_skip rfl rfl ?_; (try simp only [Act.put, List.setIfInBounds_toArray, List.set_cons_zero, List.set_cons_succ]))
                    | (refine ty_pure rfl rfl rfl rfl ?_; apply Exists.intro; refine ⟨fun wq hq hk => ?_, ?_⟩
                       · have f0 := hq.blk QB2; have f1 := hq.cell QC2; simp only [pureAt]; go_simp; (try simp only [↓IntWalk.iteOmega]); (try go_bits); (try simp only [pureUpon]); (first | done | exact ⟨rfl, rfl⟩ | exact ⟨trivial, rfl⟩ | rfl)
                       (try simp only [Act.put, List.setIfInBounds_toArray, List.set_cons_zero, List.set_cons_succ]))
                  first
                    | (refine ty_skip rfl rfl ?_; (try simp only [Act.put, List.setIfInBounds_toArray, List.set_cons_zero, List.set_cons_succ]))
                    | (refine ty_pure rfl rfl rfl rfl ?_; apply Exists.intro; refine ⟨fun wq hq hk => ?_, ?_⟩
                       · have f0 := hq.blk QB2; have f1 := hq.cell QC2; simp only [pureAt]; go_simp; (try simp only [↓IntWalk.iteOmega]); (try go_bits); (try simp only [pureUpon]); (first | done | exact ⟨rfl, rfl⟩ | exact ⟨trivial, rfl⟩ | rfl)
                       (try simp only [Act.put, List.setIfInBounds_toArray, List.set_cons_zero, List.set_cons_succ]))
                  first
                    | (refine ty_skip rfl rfl ?_; (try simp only [Act.put, List.setIfInBounds_toArray, List.set_cons_zero, List.set_cons_succ]))
                    | (refine ty_pure rfl rfl rfl rfl ?_; apply Exists.intro; refine ⟨fun wq hq hk => ?_, ?_⟩
                       · have f0 := hq.blk QB2; have f1 := hq.cell QC2; simp only [pureAt]; go_simp; (try simp only [↓IntWalk.iteOmega]); (try go_bits); (try simp only [pureUpon]); (first | done | exact ⟨rfl, rfl⟩ | exact ⟨trivial, rfl⟩ | rfl)
                       (try simp only [Act.put, List.setIfInBounds_toArray, List.set_cons_zero, List.set_cons_succ]))
                  first
                    | (refine ty_skip rfl rfl ?_; (try simp only [Act.put, List.setIfInBounds_toArray, List.set_cons_zero, List.set_cons_succ]))
                    | (refine ty_pure rfl rfl rfl rfl ?_; apply Exists.intro; refine ⟨fun wq hq hk => ?_, ?_⟩
                       · have f0 := hq.blk QB2; have f1 := hq.cell QC2; simp only [pureAt]; go_simp; (try simp only [↓IntWalk.iteOmega]); (try go_bits); (try simp only [pureUpon]); (first | done | exact ⟨rfl, rfl⟩ | exact ⟨trivial, rfl⟩ | rfl)
                       (try simp only [Act.put, List.setIfInBounds_toArray, List.set_cons_zero, List.set_cons_succ]))
                  first
                    | (refine ty_skip rfl rfl ?_; (try simp only [Act.put, List.setIfInBounds_toArray, List.set_cons_zero, List.set_cons_succ]))
                    | (refine ty_pure rfl rfl rfl rfl ?_; apply Exists.intro; refine ⟨fun wq hq hk => ?_, ?_⟩
                       · have f0 := hq.blk QB2; have f1 := hq.cell QC2; simp only [pureAt]; go_simp; (try simp only [↓IntWalk.iteOmega]); (try go_bits); (try simp only [pureUpon]); (first | done | exact ⟨rfl, rfl⟩ | exact ⟨trivial, rfl⟩ | rfl)
                       (try simp only [Act.put, List.setIfInBounds_toArray, List.set_cons_zero, List.set_cons_succ]))
                  first
                    | (refine ty_skip rfl rfl ?_; (try simp only [Act.put, List.setIfInBounds_toArray, List.set_cons_zero, List.set_cons_succ]))
                    | (refine ty_pure rfl rfl rfl rfl ?_; apply Exists.intro; refine ⟨fun wq hq hk => ?_, ?_⟩
                       · have f0 := hq.blk QB2; have f1 := hq.cell QC2; simp only [pureAt]; go_simp; (try simp only [↓IntWalk.iteOmega]); (try go_bits); (try simp only [pureUpon]); (first | done | exact ⟨rfl, rfl⟩ | exact ⟨trivial, rfl⟩ | rfl)
                       (try simp only [Act.put, List.setIfInBounds_toArray, List.set_cons_zero, List.set_cons_succ]))
                  first
                    | (refine ty_skip rfl rfl ?_; (try simp only [Act.put, List.setIfInBounds_toArray, List.set_cons_zero, List.set_cons_succ]))
                    | (refine ty_pure rfl rfl rfl rfl ?_; apply Exists.intro; refine ⟨fun wq hq hk => ?_, ?_⟩
                       · have f0 := hq.blk QB2; have f1 := hq.cell QC2; simp only [pureAt]; go_simp; (try simp only [↓IntWalk.iteOmega]); (try go_bits); (try simp only [pureUpon]); (first | done | exact ⟨rfl, rfl⟩ | exact ⟨trivial, rfl⟩ | rfl)
                       (try simp only [Act.put, List.setIfInBounds_toArray, List.set_cons_zero, List.set_cons_succ]))
                  refine ty_rel rfl rfl _ rfl rfl (fun wq hq hk => ?_) ?_
                  · have f0 := hq.blk QB2; have f1 := hq.cell QC2; simp only [relAt]; go_simp; (try simp only [relUpon]); exact .mk ((Below.refl _ _).alloc (Nat.le_refl _) _) wq.heap.size rfl (Blk.new wq _ _)
                  rintro (b6 : Nat)
                  (try simp only [Act.put, List.setIfInBounds_toArray, List.set_cons_zero, List.set_cons_succ])
                  refine ty_rel rfl rfl _ rfl rfl (fun wq hq hk => ?_) ?_
                  · have f0 := hq.blk QB2; have f1 := hq.cell QC2; have hr := hk _ (.head _) rfl; have hc5 := HCV.out wq _ hr; simp only [relAt]; go_simp; (try simp only [relUpon]); exact .mk (Below.refl _ _) () rfl trivial
                  rintro ⟨⟩
                  (try simp only [Act.put, List.setIfInBounds_toArray, List.set_cons_zero, List.set_cons_succ])
                  refine ty_rel rfl rfl _ rfl rfl (fun wq hq hk => ?_) ?_
                  · have f0 := hq.blk QB2; have f1 := hq.cell QC2; have ra5 := RADD1.out wq; simp only [relAt]; go_simp; (try simp only [relUpon]); exact .mk (Below.refl _ _) () rfl trivial
                  rintro ⟨⟩
                  (try simp only [Act.put, List.setIfInBounds_toArray, List.set_cons_zero, List.set_cons_succ])
                  first
                    | (refine ty_skip rfl rfl ?_; (try simp only [Act.put, List.setIfInBounds_toArray, List.set_cons_zero, List.set_cons_succ]))
                    | (refine ty_pure rfl rfl rfl rfl ?_; apply Exists.intro; refine ⟨fun wq hq hk => ?_, ?_⟩
                       · have f0 := hq.blk QB2; have f1 := hq.cell QC2; simp only [pureAt]; go_simp; (try simp only [↓IntWalk.iteOmega]); (try go_bits); (try simp only [pureUpon]); (first | done | exact ⟨rfl, rfl⟩ | exact ⟨trivial, rfl⟩ | rfl)
                       (try simp only [Act.put, List.setIfInBounds_toArray, List.set_cons_zero, List.set_cons_succ]))
                  first
                    | (refine ty_skip rfl rfl ?_; (try simp only [Act.put, List.setIfInBounds_toArray, List.set_cons_zero, List.set_cons_succ]))
                    | (refine ty_pure rfl rfl rfl rfl ?_; apply Exists.intro; refine ⟨fun wq hq hk => ?_, ?_⟩
                       · have f0 := hq.blk QB2; have f1 := hq.cell QC2; simp only [pureAt]; go_simp; (try simp only [↓IntWalk.iteOmega]); (try go_bits); (try simp only [pureUpon]); (first | done | exact ⟨rfl, rfl⟩ | exact ⟨trivial, rfl⟩ | rfl)
                       (try simp only [Act.put, List.setIfInBounds_toArray, List.set_cons_zero, List.set_cons_succ]))
                  first
                    | (refine ty_skip rfl rfl ?_; (try simp only [Act.put, List.setIfInBounds_toArray, List.set_cons_zero, List.set_cons_succ]))
                    | (refine ty_pure rfl rfl rfl rfl ?_; apply Exists.intro; refine ⟨fun wq hq hk => ?_, ?_⟩
                       · have f0 := hq.blk QB2; have f1 := hq.cell QC2; simp only [pureAt]; go_simp; (try simp only [↓IntWalk.iteOmega]); (try go_bits); (try simp only [pureUpon]); (first | done | exact ⟨rfl, rfl⟩ | exact ⟨trivial, rfl⟩ | rfl)
                       (try simp only [Act.put, List.setIfInBounds_toArray, List.set_cons_zero, List.set_cons_succ]))
                  first
                    | (refine ty_skip rfl rfl ?_; (try simp only [Act.put, List.setIfInBounds_toArray, List.set_cons_zero, List.set_cons_succ]))
                    | (refine ty_pure rfl rfl rfl rfl ?_; apply Exists.intro; refine ⟨fun wq hq hk => ?_, ?_⟩
                       · have f0 := hq.blk QB2; have f1 := hq.cell QC2; simp only [pureAt]; go_simp; (try simp only [↓IntWalk.iteOmega]); (try go_bits); (try simp only [pureUpon]); (first | done | exact ⟨rfl, rfl⟩ | exact ⟨trivial, rfl⟩ | rfl)
                       (try simp only [Act.put, List.setIfInBounds_toArray, List.set_cons_zero, List.set_cons_succ]))
                  first
                    | (refine ty_skip rfl rfl ?_; (try simp only [Act.put, List.setIfInBounds_toArray, List.set_cons_zero, List.set_cons_succ]))
                    | (refine ty_pure rfl rfl rfl rfl ?_; apply Exists.intro; refine ⟨fun wq hq hk => ?_, ?_⟩
                       · have f0 := hq.blk QB2; have f1 := hq.cell QC2; simp only [pureAt]; go_simp; (try simp only [↓IntWalk.iteOmega]); (try go_bits); (try simp only [pureUpon]); (first | done | exact ⟨rfl, rfl⟩ | exact ⟨trivial, rfl⟩ | rfl)
                       (try simp only [Act.put, List.setIfInBounds_toArray, List.set_cons_zero, List.set_cons_succ]))
                  first
                    | (refine ty_skip rfl rfl ?_; (try simp only [Act.put, List.setIfInBounds_toArray, List.set_cons_zero, List.set_cons_succ]))
                    | (refine ty_pure rfl rfl rfl rfl ?_; apply Exists.intro; refine ⟨fun wq hq hk => ?_, ?_⟩
                       · have f0 := hq.blk QB2; have f1 := hq.cell QC2; simp only [pureAt]; go_simp; (try simp only [↓IntWalk.iteOmega]); (try go_bits); (try simp only [pureUpon]); (first | done | exact ⟨rfl, rfl⟩ | exact ⟨trivial, rfl⟩ | rfl)
                       (try simp only [Act.put, List.setIfInBounds_toArray, List.set_cons_zero, List.set_cons_succ]))
                  first
                    | (refine ty_skip rfl rfl ?_; (try simp only [Act.put, List.setIfInBounds_toArray, List.set_cons_zero, List.set_cons_succ]))
                    | (refine ty_pure rfl rfl rfl rfl ?_; apply Exists.intro; refine ⟨fun wq hq hk => ?_, ?_⟩
                       · have f0 := hq.blk QB2; have f1 := hq.cell QC2; simp only [pureAt]; go_simp; (try simp only [↓IntWalk.iteOmega]); (try go_bits); (try simp only [pureUpon]); (first | done | exact ⟨rfl, rfl⟩ | exact ⟨trivial, rfl⟩ | rfl)
                       (try simp only [Act.put, List.setIfInBounds_toArray, List.set_cons_zero, List.set_cons_succ]))
                  first
                    | (refine ty_skip rfl rfl ?_; (try simp only [Act.put, List.setIfInBounds_toArray, List.set_cons_zero, List.set_cons_succ]))
                    | (refine ty_pure rfl rfl rfl rfl ?_; apply Exists.intro; refine ⟨fun wq hq hk => ?_, ?_⟩
                       · have f0 := hq.blk QB2; have f1 := hq.cell QC2; simp only [pureAt]; go_simp; (try simp only [↓IntWalk.iteOmega]); (try go_bits); (try simp only [pureUpon]); (first | done | exact ⟨rfl, rfl⟩ | exact ⟨trivial, rfl⟩ | rfl)
                       (try simp only [Act.put, List.setIfInBounds_toArray, List.set_cons_zero, List.set_cons_succ]))
                  first
                    | (refine ty_skip rfl rfl ?_; (try simp only [Act.put, List.setIfInBounds_toArray, List.set_cons_zero, List.set_cons_succ]))
                    | (refine ty_pure rfl rfl rfl rfl ?_; apply Exists.intro; refine ⟨fun wq hq hk => ?_, ?_⟩
                       · have f0 := hq.blk QB2; have f1 := hq.cell QC2; simp only [pureAt]; go_simp; (try simp only [↓IntWalk.iteOmega]); (try go_bits); (try simp only [pureUpon]); (first | done | exact ⟨rfl, rfl⟩ | exact ⟨trivial, rfl⟩ | rfl)
                       (try simp only [Act.put, List.setIfInBounds_toArray, List.set_cons_zero, List.set_cons_succ]))
                  first
                    | (refine ty_skip rfl rfl ?_; (try simp only [Act.put, List.setIfInBounds_toArray, List.set_cons_zero, List.set_cons_succ]))
                    | (refine ty_pure rfl rfl rfl rfl ?_; apply Exists.intro; refine ⟨fun wq hq hk => ?_, ?_⟩
                       · have f0 := hq.blk QB2; have f1 := hq.cell QC2; simp only [pureAt]; go_simp; (try simp only [↓IntWalk.iteOmega]); (try go_bits); (try simp only [pureUpon]); (first | done | exact ⟨rfl, rfl⟩ | exact ⟨trivial, rfl⟩ | rfl)
                       (try simp only [Act.put, List.setIfInBounds_toArray, List.set_cons_zero, List.set_cons_succ]))
                  refine ty_rel rfl rfl _ rfl rfl (fun wq hq hk => ?_) ?_
                  · have f0 := hq.blk QB2; have f1 := hq.cell QC2; have ra5 := RADD2.out wq; simp only [relAt]; go_simp; (try simp only [relUpon]); exact .mk (Below.refl _ _) () rfl trivial
                  rintro ⟨⟩
                  (try simp only [Act.put, List.setIfInBounds_toArray, List.set_cons_zero, List.set_cons_succ])
                  refine ty_nil ?_
                  simp only [List.drop_succ_cons, List.drop_zero]
                  intro W10 hw10 hΓ
                  have V10 := V4.below hw10.out
                  clear hΓ hw10 V4 QB2 QC2 L2
                  go_wp2_with fail
                  go_roundg (cw - (mm + 1))
                  case rel => exact ⟨mm + 1, q5, rfl, by simp, rfl, by omega, by have h11 := HM.out; have h12 := HMM.out; rw [show cw - (mm + 1) = m - nn by omega, show mm + 1 = kc + nn + 1 by omega]; exact H10.out, V10⟩
                  case measure => have := HM.out; have := HG.out; have := HMM.out; omega
              · have hne : u.toNat ≠ v.toNat := fun h => huv (UInt8.toNat_inj.1 h)
                have q4 : ((u.toNat : Int) != (v.toNat : Int)) = true := by simp; omega
                have q5 : ((u.toNat) != (v.toNat)) = true := by simp; omega
                have HUV := Lib.hid (show (ra.data.toList.drop kc).getD nn 0 ≠ (rb.data.toList.drop kc).getD nn 0 by rw [hgu, hgv]; exact huv)
                clear hg3 hdif hmm hgu hgv huv hne
                go_wp2_with fail
                refine wp_region_gr (by kernel_rfl) (by kernel_rfl) ?_
                repeat (first
                  | go_big_quiet_skip
                  | ((refine BigFrame.wpQuiet_want rfl (fun K hK => quiet_mk ?_)); apply Exists.intro; refine ⟨fun wq hq => ?_, hK _ ?_⟩
                     · have f0 := hq.blk QB1; have f1 := hq.blk QB2; have f2 := hq.cell QC1; have f3 := hq.cell QC2; go_simp; (try simp only [↓IntWalk.iteOmega]); (try go_bits)
                       first | done | rfl | exact ⟨rfl, rfl⟩ | exact ⟨trivial, rfl⟩
                     clear hK K; (try simp only [Act.put, List.setIfInBounds_toArray, List.set_cons_zero, List.set_cons_succ])))
                refine wpQuiet_nil ?_
                intro W4 hw4
                have V4 := V.below hw4.out
                clear V hw4 HBs QB1 QB2 QC1 QC2 L1 L2
                go_wp2_with fail
                go_roundg (cw - (kc + (nn + 1)))
                case rel => exact ⟨nn + 1, by simp, rfl, by have := HMM.out; omega, fun i hi => (Nat.lt_succ_iff_lt_or_eq.1 hi).elim (HDIF.out i) (fun h5 => by rw [h5]; exact HUV.out), V4⟩
                case measure => have := HG3.out; have := HMM.out; omega
            · have q1 : decide (mm < cw) = false := decide_eq_false hin
              have hrun : runL (ra.data.toList.drop kc) (rb.data.toList.drop kc) = nn := runL_eq _ _ nn (by rw [List.length_drop, List.length_drop]; have e1 : ra.data.toList.length = cw := HRS.out.1; have e2 : rb.data.toList.length = cw := HRS.out.2; omega) (by rw [List.length_drop]; have e1 : ra.data.toList.length = cw := HRS.out.1; omega) hdif (.inl (by rw [List.length_drop]; have e1 : ra.data.toList.length = cw := HRS.out.1; omega))
              have HRUN := Lib.hid hrun
              clear hg3 hdif hmm hrun
              go_wp2_with fail
              refine wp_region_gr (by kernel_rfl) (by kernel_rfl) ?_
              repeat (first
                | go_big_quiet_skip
                | ((refine BigFrame.wpQuiet_want rfl (fun K hK => quiet_mk ?_)); apply Exists.intro; refine ⟨fun wq hq => ?_, hK _ ?_⟩
                   · have f0 := hq.blk QB1; have f1 := hq.blk QB2; have f2 := hq.cell QC1; have f3 := hq.cell QC2; go_simp; (try simp only [↓IntWalk.iteOmega]); (try go_bits)
                     first | done | rfl | exact ⟨rfl, rfl⟩ | exact ⟨trivial, rfl⟩
                   clear hK K; (try simp only [Act.put, List.setIfInBounds_toArray, List.set_cons_zero, List.set_cons_succ])))
              refine wpQuiet_nil ?_
              intro W4 hw4
              have V4 := V.below hw4.out
              clear V hw4 HBs QB1 QB2 QC1 QC2 L1 L2
              by_cases h0 : nn = 0
              · subst h0
                have hmk := HMM.out
                rw [Nat.add_zero] at hmk
                subst hmk
                have h9 := HOUT.out
                rw [encR_same _ _ _ _ _ HRUN.out] at h9
                have H9 := Lib.hid h9
                clear h9
                go_wp2_with fail
                go_roundg (cw - (kc + 1))
                case rel => exact ⟨kc + 1, ac2, rfl, by simp, rfl, by omega, by rw [show cw - (kc + 1) = m by have := HM.out; omega]; exact H9.out, V4⟩
                case measure => have := HM.out; have := HG.out; omega
              · have h0i : (0 : Int) < nn := by omega
                have h9 := HOUT.out
                rw [encR_run _ _ _ _ _ _ HRUN.out h0] at h9
                have hmle : mm ≤ cw := by have := HMM.out; omega
                have hkm : (kc : Int) ≤ (mm : Int) := by omega
                have hmb : (mm : Int) ≤ rb.size := by rw [HRS.out.2]; omega
                have hn255 : nn ≤ 255 := by omega
                have hk255 : kc ≤ 255 := by omega
                have hj255 : j ≤ 255 := by omega
                obtain ⟨q, hq⟩ : ∃ r : ByteArray, r = ⟨#[UInt8.ofNat j, UInt8.ofNat kc, UInt8.ofNat nn]⟩ := ⟨_, rfl⟩
                have hcv : ∀ (W : World) (b : Nat), Blk W b #[.int .u8 j, .int .u8 kc, .int .u8 nn] 5 → (convert 34 9 (.slice (some ⟨b, 0, none⟩) 3 3)).run Try.prog W = .ok (.string q) W := fun W b B => by
                  rw [hq]
                  exact Lib.run_convert_whole (P := Try.prog) W 34 5 9 Try.underlying34 Try.underlying5 Try.underlying9 b 0 _ (row_bytes (row_three (by omega) (by omega) (by omega) B)) 3
                obtain ⟨q4, hq4⟩ : ∃ r, ac2 ++ q = r := ⟨_, rfl⟩
                obtain ⟨q5, hq5⟩ : ∃ r, q4 ++ rb.extract kc mm = r := ⟨_, rfl⟩
                have hq5l : q5.data.toList = ac2.data.toList ++ ([UInt8.ofNat j, UInt8.ofNat kc, UInt8.ofNat nn] ++ (rb.data.toList.drop kc).take nn) := by
                  rw [← hq5, ba_app, ← hq4, ba_app, hq, ba_extract, show mm - kc = nn by have := HMM.out; omega, List.append_assoc]
                have hacl : ac2.size ≤ 8000 := by
                  have h6 : TOT.length ≤ 8000 := HL.out
                  rw [← h9] at h6
                  have h7 : ac2.data.toList.length = ac2.size := rfl
                  simp only [List.length_append] at h6
                  omega
                have hqs : q.size = 3 := by rw [hq]; rfl
                have radd1 : ∀ W, (Op.stringOp .add ac2 q).run Try.prog W = .ok (.string q4) W := fun W => by
                  rw [← hq4]; exact run_string_add_sum W _ _ (by omega)
                have radd2 : ∀ W, (Op.stringOp .add q4 (rb.extract kc mm)).run Try.prog W = .ok (.string q5) W := fun W => by
                  rw [← hq5]; exact run_string_add_sum W _ _ (by rw [ByteArray.size_extract, ← hq4, ByteArray.size_append]; omega)
                have h10 : q5.data.toList ++ (encR j (kc + nn + 1) ra.data.toList rb.data.toList (m - nn) ++ REST) = TOT := by
                  rw [hq5l, ← h9]; simp only [List.append_assoc]
                have H10 := Lib.hid h10
                have HCV := Lib.hid hcv; have RADD1 := Lib.hid radd1; have RADD2 := Lib.hid radd2
                have QB2 := V4.B2
                have QC2 := HCB.out _ _ _ V4
                have L2 := V4.R2.lt
                clear h9 hcv radd1 radd2 hq hq4 hq5 hq5l hacl hqs h10
                go_wp2_with fail
                refine wp_region_typed 21 (fun k => match k with | 8 => [7] | _ => []) (fun k => match k with  | _ => false) (fun k => match k with | 7 => some ⟨(Nat), (0), (fun b => .slice (some ⟨b, 0, none⟩) 3 3), (fun b w => Blk w b #[.int .u8 j, .int .u8 kc, .int .u8 nn] 5), (fun b w w' h hb => h.below hb)⟩ | 8 => some ⟨(Unit), (()), (fun _ => .string q), (fun _ _ => True), (fun _ _ _ h _ => h)⟩ | 9 => some ⟨(Unit), (()), (fun _ => .string q4), (fun _ _ => True), (fun _ _ _ h _ => h)⟩ | 20 => some ⟨(Unit), (()), (fun _ => .string q5), (fun _ _ => True), (fun _ _ _ h _ => h)⟩ | _ => none) (by kernel_rfl) (by kernel_rfl) (by intro d0 v0 c0 a0 w0 h0; cases d0 <;> exact h0) ?_
                rw [show List.range 21 = [0, 1, 2, 3, 4, 5, 6, 7, 8, 9, 10, 11, 12, 13, 14, 15, 16, 17, 18, 19, 20] from rfl]
                first
                  | (refine ty_skip rfl rfl ?_; (try simp only [Act.put, List.setIfInBounds_toArray, List.set_cons_zero, List.set_cons_succ]))
                  | (refine ty_pure rfl rfl rfl rfl ?_; apply Exists.intro; refine ⟨fun wq hq hk => ?_, ?_⟩
                     · have f0 := hq.blk QB2; have f1 := hq.cell QC2; simp only [pureAt]; go_simp; (try simp only [↓IntWalk.iteOmega]); (try go_bits); (try simp only [pureUpon]); (first | done | exact ⟨rfl, rfl⟩ | exact ⟨trivial, rfl⟩ | rfl)
                     (try simp only [Act.put, List.setIfInBounds_toArray, List.set_cons_zero, List.set_cons_succ]))
                first
                  | (refine ty_skip rfl rfl ?_; (try simp only [Act.put, List.setIfInBounds_toArray, List.set_cons_zero, List.set_cons_succ]))
                  | (refine ty_pure rfl rfl rfl rfl ?_; apply Exists.intro; refine ⟨fun wq hq hk => ?_, ?_⟩
                     · have f0 := hq.blk QB2; have f1 := hq.cell QC2; simp only [pureAt]; go_simp; (try simp only [↓IntWalk.iteOmega]); (try go_bits); (try simp only [pureUpon]); (first | done | exact ⟨rfl, rfl⟩ | exact ⟨trivial, rfl⟩ | rfl)
                     (try simp only [Act.put, List.setIfInBounds_toArray, List.set_cons_zero, List.set_cons_succ]))
                first
                  | (refine ty_skip rfl rfl ?_; (try simp only [Act.put, List.setIfInBounds_toArray, List.set_cons_zero, List.set_cons_succ]))
                  | (refine ty_pure rfl rfl rfl rfl ?_; apply Exists.intro; refine ⟨fun wq hq hk => ?_, ?_⟩
                     · have f0 := hq.blk QB2; have f1 := hq.cell QC2; simp only [pureAt]; go_simp; (try simp only [↓IntWalk.iteOmega]); (try go_bits); (try simp only [pureUpon]); (first | done | exact ⟨rfl, rfl⟩ | exact ⟨trivial, rfl⟩ | rfl)
                     (try simp only [Act.put, List.setIfInBounds_toArray, List.set_cons_zero, List.set_cons_succ]))
                first
                  | (refine ty_skip rfl rfl ?_; (try simp only [Act.put, List.setIfInBounds_toArray, List.set_cons_zero, List.set_cons_succ]))
                  | (refine ty_pure rfl rfl rfl rfl ?_; apply Exists.intro; refine ⟨fun wq hq hk => ?_, ?_⟩
                     · have f0 := hq.blk QB2; have f1 := hq.cell QC2; simp only [pureAt]; go_simp; (try simp only [↓IntWalk.iteOmega]); (try go_bits); (try simp only [pureUpon]); (first | done | exact ⟨rfl, rfl⟩ | exact ⟨trivial, rfl⟩ | rfl)
                     (try simp only [Act.put, List.setIfInBounds_toArray, List.set_cons_zero, List.set_cons_succ]))
                first
                  | (refine ty_skip rfl rfl ?_; (try simp only [Act.put, List.setIfInBounds_toArray, List.set_cons_zero, List.set_cons_succ]))
                  | (refine ty_pure rfl rfl rfl rfl ?_; apply Exists.intro; refine ⟨fun wq hq hk => ?_, ?_⟩
                     · have f0 := hq.blk QB2; have f1 := hq.cell QC2; simp only [pureAt]; go_simp; (try simp only [↓IntWalk.iteOmega]); (try go_bits); (try simp only [pureUpon]); (first | done | exact ⟨rfl, rfl⟩ | exact ⟨trivial, rfl⟩ | rfl)
                     (try simp only [Act.put, List.setIfInBounds_toArray, List.set_cons_zero, List.set_cons_succ]))
                first
                  | (refine ty_skip rfl rfl ?_; (try simp only [Act.put, List.setIfInBounds_toArray, List.set_cons_zero, List.set_cons_succ]))
                  | (refine ty_pure rfl rfl rfl rfl ?_; apply Exists.intro; refine ⟨fun wq hq hk => ?_, ?_⟩
                     · have f0 := hq.blk QB2; have f1 := hq.cell QC2; simp only [pureAt]; go_simp; (try simp only [↓IntWalk.iteOmega]); (try go_bits); (try simp only [pureUpon]); (first | done | exact ⟨rfl, rfl⟩ | exact ⟨trivial, rfl⟩ | rfl)
                     (try simp only [Act.put, List.setIfInBounds_toArray, List.set_cons_zero, List.set_cons_succ]))
                first
                  | (refine ty_skip rfl rfl ?_; (try simp only [Act.put, List.setIfInBounds_toArray, List.set_cons_zero, List.set_cons_succ]))
                  | (refine ty_pure rfl rfl rfl rfl ?_; apply Exists.intro; refine ⟨fun wq hq hk => ?_, ?_⟩
                     · have f0 := hq.blk QB2; have f1 := hq.cell QC2; simp only [pureAt]; go_simp; (try simp only [↓IntWalk.iteOmega]); (try go_bits); (try simp only [pureUpon]); (first | done | exact ⟨rfl, rfl⟩ | exact ⟨trivial, rfl⟩ | rfl)
                     (try simp only [Act.put, List.setIfInBounds_toArray, List.set_cons_zero, List.set_cons_succ]))
                refine ty_rel rfl rfl _ rfl rfl (fun wq hq hk => ?_) ?_
                · have f0 := hq.blk QB2; have f1 := hq.cell QC2; simp only [relAt]; go_simp; (try simp only [relUpon]); exact .mk ((Below.refl _ _).alloc (Nat.le_refl _) _) wq.heap.size rfl (Blk.new wq _ _)
                rintro (b6 : Nat)
                (try simp only [Act.put, List.setIfInBounds_toArray, List.set_cons_zero, List.set_cons_succ])
                refine ty_rel rfl rfl _ rfl rfl (fun wq hq hk => ?_) ?_
                · have f0 := hq.blk QB2; have f1 := hq.cell QC2; have hr := hk _ (.head _) rfl; have hc5 := HCV.out wq _ hr; simp only [relAt]; go_simp; (try simp only [relUpon]); exact .mk (Below.refl _ _) () rfl trivial
                rintro ⟨⟩
                (try simp only [Act.put, List.setIfInBounds_toArray, List.set_cons_zero, List.set_cons_succ])
                refine ty_rel rfl rfl _ rfl rfl (fun wq hq hk => ?_) ?_
                · have f0 := hq.blk QB2; have f1 := hq.cell QC2; have ra5 := RADD1.out wq; simp only [relAt]; go_simp; (try simp only [relUpon]); exact .mk (Below.refl _ _) () rfl trivial
                rintro ⟨⟩
                (try simp only [Act.put, List.setIfInBounds_toArray, List.set_cons_zero, List.set_cons_succ])
                first
                  | (refine ty_skip rfl rfl ?_; (try simp only [Act.put, List.setIfInBounds_toArray, List.set_cons_zero, List.set_cons_succ]))
                  | (refine ty_pure rfl rfl rfl rfl ?_; apply Exists.intro; refine ⟨fun wq hq hk => ?_, ?_⟩
                     · have f0 := hq.blk QB2; have f1 := hq.cell QC2; simp only [pureAt]; go_simp; (try simp only [↓IntWalk.iteOmega]); (try go_bits); (try simp only [pureUpon]); (first | done | exact ⟨rfl, rfl⟩ | exact ⟨trivial, rfl⟩ | rfl)
                     (try simp only [Act.put, List.setIfInBounds_toArray, List.set_cons_zero, List.set_cons_succ]))
                first
                  | (refine ty_skip rfl rfl ?_; (try simp only [Act.put, List.setIfInBounds_toArray, List.set_cons_zero, List.set_cons_succ]))
                  | (refine ty_pure rfl rfl rfl rfl ?_; apply Exists.intro; refine ⟨fun wq hq hk => ?_, ?_⟩
                     · have f0 := hq.blk QB2; have f1 := hq.cell QC2; simp only [pureAt]; go_simp; (try simp only [↓IntWalk.iteOmega]); (try go_bits); (try simp only [pureUpon]); (first | done | exact ⟨rfl, rfl⟩ | exact ⟨trivial, rfl⟩ | rfl)
                     (try simp only [Act.put, List.setIfInBounds_toArray, List.set_cons_zero, List.set_cons_succ]))
                first
                  | (refine ty_skip rfl rfl ?_; (try simp only [Act.put, List.setIfInBounds_toArray, List.set_cons_zero, List.set_cons_succ]))
                  | (refine ty_pure rfl rfl rfl rfl ?_; apply Exists.intro; refine ⟨fun wq hq hk => ?_, ?_⟩
                     · have f0 := hq.blk QB2; have f1 := hq.cell QC2; simp only [pureAt]; go_simp; (try simp only [↓IntWalk.iteOmega]); (try go_bits); (try simp only [pureUpon]); (first | done | exact ⟨rfl, rfl⟩ | exact ⟨trivial, rfl⟩ | rfl)
                     (try simp only [Act.put, List.setIfInBounds_toArray, List.set_cons_zero, List.set_cons_succ]))
                first
                  | (refine ty_skip rfl rfl ?_; (try simp only [Act.put, List.setIfInBounds_toArray, List.set_cons_zero, List.set_cons_succ]))
                  | (refine ty_pure rfl rfl rfl rfl ?_; apply Exists.intro; refine ⟨fun wq hq hk => ?_, ?_⟩
                     · have f0 := hq.blk QB2; have f1 := hq.cell QC2; simp only [pureAt]; go_simp; (try simp only [↓IntWalk.iteOmega]); (try go_bits); (try simp only [pureUpon]); (first | done | exact ⟨rfl, rfl⟩ | exact ⟨trivial, rfl⟩ | rfl)
                     (try simp only [Act.put, List.setIfInBounds_toArray, List.set_cons_zero, List.set_cons_succ]))
                first
                  | (refine ty_skip rfl rfl ?_; (try simp only [Act.put, List.setIfInBounds_toArray, List.set_cons_zero, List.set_cons_succ]))
                  | (refine ty_pure rfl rfl rfl rfl ?_; apply Exists.intro; refine ⟨fun wq hq hk => ?_, ?_⟩
                     · have f0 := hq.blk QB2; have f1 := hq.cell QC2; simp only [pureAt]; go_simp; (try simp only [↓IntWalk.iteOmega]); (try go_bits); (try simp only [pureUpon]); (first | done | exact ⟨rfl, rfl⟩ | exact ⟨trivial, rfl⟩ | rfl)
                     (try simp only [Act.put, List.setIfInBounds_toArray, List.set_cons_zero, List.set_cons_succ]))
                first
                  | (refine ty_skip rfl rfl ?_; (try simp only [Act.put, List.setIfInBounds_toArray, List.set_cons_zero, List.set_cons_succ]))
                  | (refine ty_pure rfl rfl rfl rfl ?_; apply Exists.intro; refine ⟨fun wq hq hk => ?_, ?_⟩
                     · have f0 := hq.blk QB2; have f1 := hq.cell QC2; simp only [pureAt]; go_simp; (try simp only [↓IntWalk.iteOmega]); (try go_bits); (try simp only [pureUpon]); (first | done | exact ⟨rfl, rfl⟩ | exact ⟨trivial, rfl⟩ | rfl)
                     (try simp only [Act.put, List.setIfInBounds_toArray, List.set_cons_zero, List.set_cons_succ]))
                first
                  | (refine ty_skip rfl rfl ?_; (try simp only [Act.put, List.setIfInBounds_toArray, List.set_cons_zero, List.set_cons_succ]))
                  | (refine ty_pure rfl rfl rfl rfl ?_; apply Exists.intro; refine ⟨fun wq hq hk => ?_, ?_⟩
                     · have f0 := hq.blk QB2; have f1 := hq.cell QC2; simp only [pureAt]; go_simp; (try simp only [↓IntWalk.iteOmega]); (try go_bits); (try simp only [pureUpon]); (first | done | exact ⟨rfl, rfl⟩ | exact ⟨trivial, rfl⟩ | rfl)
                     (try simp only [Act.put, List.setIfInBounds_toArray, List.set_cons_zero, List.set_cons_succ]))
                first
                  | (refine ty_skip rfl rfl ?_; (try simp only [Act.put, List.setIfInBounds_toArray, List.set_cons_zero, List.set_cons_succ]))
                  | (refine ty_pure rfl rfl rfl rfl ?_; apply Exists.intro; refine ⟨fun wq hq hk => ?_, ?_⟩
                     · have f0 := hq.blk QB2; have f1 := hq.cell QC2; simp only [pureAt]; go_simp; (try simp only [↓IntWalk.iteOmega]); (try go_bits); (try simp only [pureUpon]); (first | done | exact ⟨rfl, rfl⟩ | exact ⟨trivial, rfl⟩ | rfl)
                     (try simp only [Act.put, List.setIfInBounds_toArray, List.set_cons_zero, List.set_cons_succ]))
                first
                  | (refine ty_skip rfl rfl ?_; (try simp only [Act.put, List.setIfInBounds_toArray, List.set_cons_zero, List.set_cons_succ]))
                  | (refine ty_pure rfl rfl rfl rfl ?_; apply Exists.intro; refine ⟨fun wq hq hk => ?_, ?_⟩
                     · have f0 := hq.blk QB2; have f1 := hq.cell QC2; simp only [pureAt]; go_simp; (try simp only [↓IntWalk.iteOmega]); (try go_bits); (try simp only [pureUpon]); (first | done | exact ⟨rfl, rfl⟩ | exact ⟨trivial, rfl⟩ | rfl)
                     (try simp only [Act.put, List.setIfInBounds_toArray, List.set_cons_zero, List.set_cons_succ]))
                first
                  | (refine ty_skip rfl rfl ?_; (try simp only [Act.put, List.setIfInBounds_toArray, List.set_cons_zero, List.set_cons_succ]))
                  | (refine ty_pure rfl rfl rfl rfl ?_; apply Exists.intro; refine ⟨fun wq hq hk => ?_, ?_⟩
                     · have f0 := hq.blk QB2; have f1 := hq.cell QC2; simp only [pureAt]; go_simp; (try simp only [↓IntWalk.iteOmega]); (try go_bits); (try simp only [pureUpon]); (first | done | exact ⟨rfl, rfl⟩ | exact ⟨trivial, rfl⟩ | rfl)
                     (try simp only [Act.put, List.setIfInBounds_toArray, List.set_cons_zero, List.set_cons_succ]))
                refine ty_rel rfl rfl _ rfl rfl (fun wq hq hk => ?_) ?_
                · have f0 := hq.blk QB2; have f1 := hq.cell QC2; have ra5 := RADD2.out wq; simp only [relAt]; go_simp; (try simp only [relUpon]); exact .mk (Below.refl _ _) () rfl trivial
                rintro ⟨⟩
                (try simp only [Act.put, List.setIfInBounds_toArray, List.set_cons_zero, List.set_cons_succ])
                refine ty_nil ?_
                simp only [List.drop_succ_cons, List.drop_zero]
                intro W10 hw10 hΓ
                have V10 := V4.below hw10.out
                clear hΓ hw10 V4 QB2 QC2 L2
                go_wp2_with fail
                go_roundg (cw - (mm + 1))
                case rel => exact ⟨mm + 1, q5, rfl, by simp, rfl, by omega, by have h11 := HM.out; have h12 := HMM.out; rw [show cw - (mm + 1) = m - nn by omega, show mm + 1 = kc + nn + 1 by omega]; exact H10.out, V10⟩
                case measure => have := HM.out; have := HG.out; have := HMM.out; omega
        · have he : cw - kc = 0 := by omega
          rw [he, encR_zero, List.nil_append] at hout
          have HOUT := Lib.hid hout
          clear hout hg2 he
          go_wp2_with fail
          go_roundg g
          case rel => exact ⟨j + 1, ac2, rfl, by simp, by have := HJ.out; omega, by rw [HREST.out]; exact HOUT.out, V⟩
          case measure => omega
end Go.Proofs.Ytgdmeaoghhkknaa
