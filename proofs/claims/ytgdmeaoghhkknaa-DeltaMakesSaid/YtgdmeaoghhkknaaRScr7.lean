/- The document's screens: Put. -/
import Derived.Test.YtgdmeaoghhkknaaRScr6
import Derived.Test.YtgdmeaoghhkknaaScr2
namespace Go.Proofs.Ytgdmeaoghhkknaa
open Go.RowKit

set_option maxHeartbeats 16000000 in
set_option maxRecDepth 20000 in
theorem rput_any (s : Scr) (v : Value) (out : ByteArray) (w : World) (R0 : RScrAt w v s) (hs : s.Ok) (ho : out.size ≤ 100000) :
    Calls Try.prog 18 #[v, .string out] w fun e w' => ∃ v, e = .returned v ∧ RScrAt w' v (putL s out.data.toList) ∧ Below w.heap.size w w' := by
  obtain ⟨i0, hi0, hz0, hz1, hz2⟩ := info_parts info9
  obtain ⟨b0, off0, c0, rfl, hc0, hr0⟩ := R0
  obtain ⟨cw, hcw⟩ : ∃ k, s.w = k := ⟨_, rfl⟩
  obtain ⟨ch, hch⟩ : ∃ k, s.h = k := ⟨_, rfl⟩
  have w1 : 1 ≤ cw := by rw [← hcw]; exact hs.w1
  have w2 : cw ≤ 80 := by rw [← hcw]; exact hs.w2
  have h1 : 1 ≤ ch := by rw [← hch]; exact hs.h1
  have h2 : ch ≤ 24 := by rw [← hch]; exact hs.h2
  rw [hch] at hc0
  rw [hcw, hch] at hr0 ⊢
  have HCW := Lib.hid (And.intro hcw hch)
  obtain ⟨sx, hsx⟩ : ∃ k, s.x = k := ⟨_, rfl⟩
  obtain ⟨sy, hsy⟩ : ∃ k, s.y = k := ⟨_, rfl⟩
  rw [hsx, hsy]
  have HXY := Lib.hid (And.intro hsx hsy)
  have hbl := hr0.lt
  have HR0 := Lib.hid hr0
  clear hcw hch hsx hsy hr0
  go_enter Try.func18, Try.ntmps18
  go_wp2_with fail
  refine wp_absQ (fun W => RAt w W w.heap.size (w.heap.size + 1) cw ch sx sy b0 off0 c0 s.b) ⟨by (repeat (first | (with_reducible assumption) | (with_reducible apply Blk.new'; (first | (with_reducible rfl) | (simp; done))) | with_reducible apply Blk.alloc | with_reducible apply Blk.set | ((with_reducible apply Blk.set_ne); focus (first | (simp; done) | (simp; omega))) | with_reducible apply Blk.drewN | with_reducible apply Blk.drew)), by (repeat (first | (with_reducible assumption) | (with_reducible apply Blk.new'; (first | (with_reducible rfl) | (simp; done))) | with_reducible apply Blk.alloc | with_reducible apply Blk.set | ((with_reducible apply Blk.set_ne); focus (first | (simp; done) | (simp; omega))) | with_reducible apply Blk.drewN | with_reducible apply Blk.drew)), hc0, HR0.out.below (by (repeat (first | (with_reducible assumption) | (with_reducible exact Below.refl _ _) | with_reducible apply bl_drewN | with_reducible apply Below.drew | (with_reducible apply bl_alloc; focus (first | (simp; done) | (simp; omega) | omega)) | (with_reducible apply bl_set; focus (first | (simp; done) | (simp; omega) | omega))))), by omega, by omega, by omega, by (repeat (first | (with_reducible assumption) | (with_reducible exact Below.refl _ _) | with_reducible apply bl_drewN | with_reducible apply Below.drew | (with_reducible apply bl_alloc; focus (first | (simp; done) | (simp; omega) | omega)) | (with_reducible apply bl_set; focus (first | (simp; done) | (simp; omega) | omega)))), by omega, by omega⟩ (fun W1 V0 => ?_)
  obtain ⟨A, hA⟩ : ∃ A, w.heap.size = A := ⟨_, rfl⟩
  have hwA : w.heap.size ≤ A := by omega
  obtain ⟨R, hR⟩ : ∃ R, A + 1 = R := ⟨_, rfl⟩
  rw [hA, hR] at V0 ⊢
  clear hA hR hbl
  go_loopg [5] out.size (fun k t5 wr => ∃ (j b off c : Nat) (S : Scr), t5 = .int .i64 j ∧ j + k = out.size ∧ S = putL s (out.data.toList.take j) ∧ RAt w wr A R cw ch S.x S.y b off c S.b)
  case atStart => exact ⟨0, b0, off0, c0, s, rfl, by omega, rfl, by rw [HXY.out.1, HXY.out.2]; exact V0⟩
  case round =>
    clear V0
    obtain ⟨j, b, off, cp, S, rfl, hj, hS, V⟩ := hrel
    have hSok : S.Ok := by rw [hS]; exact putL_ok hs _
    have hSw : S.w = cw ∧ S.h = ch := by rw [hS, (putL_w s _).1, (putL_w s _).2]; exact HCW.out
    have HJ := Lib.hid hj
    cases gk with
    | zero =>
      have hj' : ¬ (j : Int) < out.size := by omega
      have hout : S = putL s out.data.toList := by rw [hS, List.take_of_length_le (by show out.data.toList.length ≤ j; have : out.data.toList.length = out.size := rfl; omega)]
      have BAc := V.BA.cell; have BAf := V.BA.frozen; have BRc := V.BR.cell; have BRf := V.BR.frozen
      have BAl := V.BA.lt; have BRl := V.BR.lt
      have HS := Lib.hid hS
      clear hj hS
      go_wp2_with fail
      refine bodyPost_ret (v := RV cw ch (putL s out.data.toList).x (putL s out.data.toList).y (.slice (some ⟨b, off, none⟩) ch cp)) ?_ rfl ⟨_, rfl, ⟨b, off, cp, ?_, ?_, ?_⟩, ?_⟩
      · first | (simp [results, Try.results18, go_sem, BRc]; done) | simp [results, Try.results18, go_sem, BRc, BRl]
      · rw [(putL_w s _).1, (putL_w s _).2, HCW.out.1, HCW.out.2]
      · rw [(putL_w s _).2, HCW.out.2]; exact V.cap
      · rw [(putL_w s _).1, (putL_w s _).2, HCW.out.1, HCW.out.2, ← hout]
        exact ((((V.row.set_ne V.bR _).set_ne V.bR _).set_ne V.bR _).set_ne V.bR _).set_ne V.bR _
      · have HBV := V.HB; have hA0 := V.A0; have hR0 := V.R0
        repeat (first | (with_reducible assumption) | (with_reducible exact Below.refl _ _) | with_reducible apply bl_drewN | with_reducible apply Below.drew | (with_reducible apply bl_alloc; focus (first | (simp; done) | (simp; omega) | omega)) | (with_reducible apply bl_set; focus (first | (simp; done) | (simp; omega) | omega)))
    | succ k =>
      have hj' : (j : Int) < out.size := by omega
      have hjl : j < out.size := by omega
      obtain ⟨c, hc⟩ : ∃ c, out[j] = c := ⟨_, rfl⟩
      have hS' : put1 S c = putL s (out.data.toList.take (j + 1)) := by
        have hjl' : j < out.data.toList.length := hjl
        rw [List.take_add_one, List.getElem?_eq_getElem hjl', putL_app, ← hS, ← hc]
        rfl
      have HS' := Lib.hid hS'
      have H255 : c.toNat ≤ 255 := by have := c.toNat_lt; omega
      have hxl := hSok.x; have hyl := hSok.y
      rw [hSw.1] at hxl; rw [hSw.2] at hyl
      obtain ⟨x, hx⟩ : ∃ x, S.x = x := ⟨_, rfl⟩
      obtain ⟨y, hy⟩ : ∃ y, S.y = y := ⟨_, rfl⟩
      rw [hx] at hxl; rw [hy] at hyl
      rw [hx, hy] at V
      have HC := Lib.hid hc
      clear hj hS hS'
      by_cases hp : 32 ≤ c.toNat ∧ c.toNat ≤ 126
      · have p1 : (32 : Int) ≤ c.toNat := by omega
        have p2 : (c.toNat : Int) ≤ 126 := by omega
        have n10 : ¬ (c.toNat : Int) = 10 := by omega
        have n13 : ¬ (c.toNat : Int) = 13 := by omega
        have n8 : ¬ (c.toNat : Int) = 8 := by omega
        have n12 : ¬ (c.toNat : Int) = 12 := by omega
        have hput : put1 S c = if x + 1 < cw then ⟨cw, ch, x + 1, y, S.b.set (y * cw + x) c⟩ else nl ⟨cw, ch, x, y, S.b.set (y * cw + x) c⟩ := by
          unfold put1; rw [if_pos hp]; unfold putC
          rw [hx, hy, hSw.1, hSw.2]
        have hSl : S.b.length = cw * ch := by rw [hSok.len, hSw.1, hSw.2]
        obtain ⟨b', hb'⟩ : ∃ b', S.b.set (y * cw + x) c = b' := ⟨_, rfl⟩
        obtain ⟨l0, hl0⟩ : ∃ l0, S.b = l0 := ⟨_, rfl⟩
        have hbl : b'.length = cw * ch := by rw [← hb', List.length_set]; exact hSl
        rw [hl0] at V hb' hSl
        rw [hl0, hb'] at hput
        have HPUT := Lib.hid hput
        have HB' := Lib.hid hb'
        have HBL := Lib.hid hbl
        have HSL := Lib.hid hSl
        clear hput hp hx hy hl0 hb' hbl hSl
        have BAc := V.BA.cell; have BAf := V.BA.frozen; have BAl := V.BA.lt
        go_wp2_with fail
        obtain ⟨W2, hW2⟩ : ∃ W2, W2 = wr := ⟨_, rfl⟩
        subst hW2
        go_loopg [7, 28] ch (fun g t7 t28 wx => ∃ m : Nat, t28 = .int .i64 m ∧ m + g = ch ∧ wx.ownsRow W2.heap.size 9 1 t7 m (strs (rowsL (txt b') cw m)) ∧ Below W2.heap.size W2 wx)
        case atStart => exact ⟨0, rfl, by omega, World.ownsRow_nil _ _ _ _, Below.refl _ _⟩
        case round =>
          obtain ⟨m, rfl, hm, ho, HBx⟩ := hrel
          have V2 := V.below HBx
          have HBxs := HBx.size
          have hbl := V2.row.lt
          have HM := Lib.hid hm
          obtain ⟨a3, c3, h3⟩ := own_slice ho
          subst h3
          have bV := V
          clear BAc BAf BAl
          have BAc := V2.BA.cell; have BAf := V2.BA.frozen; have BAl := V2.BA.lt
          cases gk with
          | zero =>
            have hm' : ¬ (m : Int) < ch := by omega
            obtain rfl : m = ch := by omega
            clear hm HM
            have hcap : m ≤ c3 := by
              rcases ho.2 with ⟨_, h5⟩ | ⟨_, c', _, h5, _, _, h8, _⟩
              · omega
              · simp only [Value.slice.injEq] at h5; omega
            obtain ⟨g, c4, hv, hg0, hgl, hgc⟩ := own_reads ho h1
            simp only [Value.slice.injEq, true_and] at hv
            obtain ⟨rfl, rfl⟩ := hv
            have hrow : RowAt wr g 0 (rowsL (txt b') cw m) := ⟨hgl, fun i hi => by
              rw [rowsL_length] at hi
              rw [Nat.zero_add, hgc i (by omega)]
              simp only [strs, List.getElem?_map]
              rw [List.getElem?_eq_getElem (by rw [rowsL_length]; exact hi)]
              simp [List.getD, hi, rowsL_length]⟩
            have hgA : g ≠ A := by have := bV.BA.lt; omega
            have hgR : g ≠ R := by have := bV.BR.lt; omega
            have V3 := V2.setRows hcap hrow hgA hgR
            clear ho hgc hrow
            go_upto_region 15 with fail
            refine wp_absQ (fun W => RAt w W A R cw m x y g 0 c3 b') V3 (fun W3 V4 => ?_)
            clear V V2 bV V3 HBx HBxs BAc BAf BAl
            have BAc := V4.BA.cell; have BAf := V4.BA.frozen; have BAl := V4.BA.lt
            by_cases hxx : x + 1 < cw
            · have hxi : ¬ (x : Int) + 1 = cw := by omega
              have hput : put1 S c = ⟨cw, m, x + 1, y, b'⟩ := by rw [HPUT.out, if_pos hxx]
              have HP := Lib.hid hput
              clear hput hxx
              go_wp2_with fail
              have V5 := V4.setX (x + 1)
              rw [Int.natCast_succ] at V5
              go_roundg k
              case rel =>
                refine ⟨j + 1, g, 0, c3, put1 S c, by simp, by have := HJ.out; omega, HS'.out, ?_⟩
                rw [HP.out]
                exact V5
              case measure => omega
            · have hxe : x + 1 = cw := by omega
              have hput : put1 S c = nl ⟨cw, m, x, y, b'⟩ := by rw [HPUT.out, if_neg hxx]
              have HP := Lib.hid hput
              have hdk : Scr.Dk ⟨cw, m, cw, y, b'⟩ := ⟨w1, w2, h1, h2, hyl, HBL.out⟩
              have hxi : (x : Int) + 1 = cw := by omega
              clear hput hxx
              go_wp2_with fail
              have V5 := V4.setX cw
              clear BAc BAf BAl V4
              refine (rdown_any ⟨cw, m, cw, y, b'⟩ _ _ ⟨g, 0, c3, rfl, V5.cap, V5.row⟩ hdk).mono ?_
              rintro e w5 ⟨v5, rfl, ⟨b5, off5, c5, hv5, hc5, hr5⟩, hb⟩
              obtain ⟨n, hn⟩ : ∃ n, put1 S c = n := ⟨_, rfl⟩
              have hn3 : nl ⟨cw, m, cw, y, b'⟩ = n := HP.out.symm.trans hn
              have e1 : n.w = cw := by rw [← hn, (put1_w S c).1]; exact hSw.1
              have e2 : n.h = m := by rw [← hn, (put1_w S c).2]; exact hSw.2
              rw [hn3, e1, e2] at hv5 hr5
              rw [hn3, e2] at hc5
              subst hv5
              have V6 := V5.put hb h1 hc5 hr5 (x' := n.x) (y' := n.y)
              have V7 := V5.below hb
              obtain ⟨nx, hnx⟩ : ∃ k, n.x = k := ⟨_, rfl⟩
              obtain ⟨ny, hny⟩ : ∃ k, n.y = k := ⟨_, rfl⟩
              rw [hnx, hny] at V6 ⊢
              have HN := Lib.hid hn
              have HNX := Lib.hid hnx
              have HNY := Lib.hid hny
              clear hn hn3 e1 e2 hc5 hr5 hb hnx hny
              have BAc := V7.BA.cell; have BAf := V7.BA.frozen; have BAl := V7.BA.lt
              go_wp2_with fail
              go_roundg k
              case rel =>
                refine ⟨j + 1, b5, off5, c5, put1 S c, by simp, by have := HJ.out; omega, HS'.out, ?_⟩
                rw [HN.out]
                exact (by rw [HNX.out, HNY.out]; exact V6)
              case measure => omega
          | succ g =>
            have hm' : (m : Int) < ch := by omega
            have hml : m < ch := by omega
            clear hm
            obtain ⟨r, hr⟩ : ∃ r, (txt l0).extract (m * cw) ((m + 1) * cw) = r := ⟨_, rfl⟩
            have hcell : wr.cell? ⟨b, off + m, none⟩ = some (Value.string r) := by
              rw [V2.row.cell m (by rw [rowsL_length]; exact hml), rowsL_get _ _ _ _ hml, hr]
            have HR := Lib.hid hr
            clear hr
            by_cases hmy : m = y
            · subst hmy
              have hrs : r.size = cw := by
                show r.data.toList.length = cw
                rw [← HR.out, ba_extract]
                have h5 : (m + 1) * cw ≤ cw * ch := by rw [Nat.mul_comm cw]; exact Nat.mul_le_mul_right _ hml
                have h6 : (m + 1) * cw = m * cw + cw := Nat.succ_mul _ _
                have h7 := HSL.out
                simp only [txt, List.length_take, List.length_drop]
                omega
              have hout2 : (out.extract j (j + 1)).size = 1 := by
                show (out.extract j (j + 1)).data.toList.length = 1
                have : out.data.toList.length = out.size := rfl
                rw [ba_extract, List.length_take, List.length_drop]; omega
              have hx1 : (r.extract 0 x).size = x := by rw [ByteArray.size_extract]; omega
              obtain ⟨r1, hr1⟩ : ∃ r1, r.extract 0 x ++ out.extract j (j + 1) = r1 := ⟨_, rfl⟩
              have hr1s : r1.size = x + 1 := by rw [← hr1, ByteArray.size_append, hx1, hout2]
              obtain ⟨r2, hr2⟩ : ∃ r2, r1 ++ r.extract (x + 1) r.size = r2 := ⟨_, rfl⟩
              have hrow : strs (rowsL (txt b') cw (m + 1)) = strs (rowsL (txt b') cw m) ++ [.string r2] := by
                rw [rowsL_succ, strs_snoc, ← HB'.out, row_turned l0 cw ch x m c hxl hml HSL.out r out j hjl HC.out HR.out, hr1, hr2]
              have HRW := Lib.hid hrow
              have radd1 : ∀ W, (Op.stringOp .add (r.extract 0 x) (out.extract j (j + 1))).run Try.prog W = .ok (.string r1) W := fun W => by rw [← hr1]; exact run_string_add_sum W _ _ (by rw [hx1, hout2]; omega)
              have radd2 : ∀ W, (Op.stringOp .add r1 (r.extract (x + 1) r.size)).run Try.prog W = .ok (.string r2) W := fun W => by rw [← hr2]; exact run_string_add_sum W _ _ (by rw [hr1s, ByteArray.size_extract]; omega)
              have hri : (x : Int) + 1 ≤ r.size := by omega
              have hri2 : (x : Int) ≤ r.size := by omega
              have hoi : (j : Int) + 1 ≤ out.size := by omega
              clear hrow hr1 hr2 hr1s hx1 hout2 hrs
              go_wp2_with fail
              refine wp_region_gr (by kernel_rfl) (by kernel_rfl) ?_
              repeat (first
                | go_big_quiet_skip
                | ((refine BigFrame.wpQuiet_want rfl (fun K hK => quiet_mk ?_)); apply Exists.intro; refine ⟨fun wq hq => ?_, hK _ ?_⟩
                   · have f0 := hq.blk V2.BA; go_simp; (try simp only [↓IntWalk.iteOmega]); (try go_bits)
                     first | done | rfl | exact ⟨rfl, rfl⟩ | exact ⟨trivial, rfl⟩
                   clear hK K; (try simp only [Act.put, List.setIfInBounds_toArray, List.set_cons_zero, List.set_cons_succ])))
              refine wpQuiet_nil ?_
              intro W4 hw4
              have ho4 := own_below ho hw4.out
              have HB4 := Below.thn HBx hw4.out HBxs
              have HB4s := HB4.size
              clear hw4 radd1 radd2 hri hri2 hoi
              have o2 := ho4.alloc (.cells #[.string r2] 9)
              go_wp2_with (at_builtin; refine wpList_append_lies _ rfl _ _ 36 rfl W2.heap.size 9 i0 _ 1 16 Try.underlying36 hi0 hz0 hz1 hz2 rfl (by decide) _ m (strs (rowsL (txt b') cw m)) rfl o2 ⟨W4.heap.size, 0, none⟩ 1 1 [.string r2] rfl rfl (World.news_of_block (heap_alloc_new W4 _)) (by simp [Value.oneCell']) (by decide) ?c3 ?c4 ?c5 (W4.heap.size + 1) (by simp) ?_)
              case c3 => unfold maxLen; omega
              case c4 => omega
              case c5 => first | omega | (simp; omega)
              intro gg cc w' ho' hg hl hlt
              have hb : Below W2.heap.size W2 w' := (HB4.alloc HB4s _).grown hg (by simp; omega) (fun q hq => (ho4.lt q hq).1)
              clear o2 hg hl hlt
              rw [← HRW.out] at ho'
              go_wp2_with fail
              go_roundg g
              case rel => exact ⟨m + 1, by simp, by have := HM.out; omega, ho', hb⟩
              case measure => omega
            · have hmyi : ¬ (m : Int) = y := by omega
              have hrow : strs (rowsL (txt b') cw (m + 1)) = strs (rowsL (txt b') cw m) ++ [.string r] := by rw [rowsL_succ, strs_snoc, ← HB'.out, row_other l0 cw x y m c hxl hmy, HR.out]
              have HRW := Lib.hid hrow
              clear hrow
              have o2 := ho.alloc (.cells #[.string r] 9)
              go_wp2_with (at_builtin; refine wpList_append_lies _ rfl _ _ 36 rfl W2.heap.size 9 i0 _ 1 16 Try.underlying36 hi0 hz0 hz1 hz2 rfl (by decide) _ m (strs (rowsL (txt b') cw m)) rfl o2 ⟨wr.heap.size, 0, none⟩ 1 1 [.string r] rfl rfl (World.news_of_block (heap_alloc_new wr _)) (by simp [Value.oneCell']) (by decide) ?c3 ?c4 ?c5 (wr.heap.size + 1) (by simp) ?_)
              case c3 => unfold maxLen; omega
              case c4 => omega
              case c5 => first | omega | (simp; omega)
              intro gg cc w' ho' hg hl hlt
              have hb : Below W2.heap.size W2 w' := (HBx.alloc HBxs _).grown hg (by simp; omega) (fun q hq => (ho.lt q hq).1)
              clear o2 hg hl hlt
              rw [← HRW.out] at ho'
              go_wp2_with fail
              go_roundg g
              case rel => exact ⟨m + 1, by simp, by have := HM.out; omega, ho', hb⟩
              case measure => omega
      · have hSe : S = ⟨cw, ch, x, y, S.b⟩ := by
          rw [← hSw.1, ← hSw.2, ← hx, ← hy]
        have hdk : Scr.Dk ⟨cw, ch, x, y, S.b⟩ := ⟨w1, w2, h1, h2, hyl, by rw [hSok.len, hSw.1, hSw.2]⟩
        obtain ⟨l0, hl0⟩ : ∃ l0, S.b = l0 := ⟨_, rfl⟩
        rw [hl0] at V hSe hdk
        have hput : put1 S c = if c.toNat = 13 then ⟨cw, ch, 0, y, l0⟩ else if c.toNat = 8 then ⟨cw, ch, x - 1, y, l0⟩ else if c.toNat = 12 then newS cw ch else if c.toNat = 10 then nl ⟨cw, ch, x, y, l0⟩ else ⟨cw, ch, x, y, l0⟩ := by
          unfold put1; rw [if_neg hp, hSe]
        have HDK := Lib.hid hdk
        have HSE := Lib.hid hSe
        clear hl0 hx hy hSe hdk
        have BAc := V.BA.cell; have BAf := V.BA.frozen; have BAl := V.BA.lt
        by_cases h32 : 32 ≤ c.toNat
        · have p1 : (32 : Int) ≤ c.toNat := by omega
          have p2 : ¬ (c.toNat : Int) ≤ 126 := by omega
          have n10 : ¬ (c.toNat : Int) = 10 := by omega
          have n13 : ¬ (c.toNat : Int) = 13 := by omega
          have n8 : ¬ (c.toNat : Int) = 8 := by omega
          have n12 : ¬ (c.toNat : Int) = 12 := by omega
          rw [if_neg (by omega), if_neg (by omega), if_neg (by omega), if_neg (by omega)] at hput
          have HP := Lib.hid hput
          clear hput hp h32
          go_wp2_with fail
          go_roundg k
          case rel =>
            refine ⟨j + 1, b, off, cp, put1 S c, by simp, by have := HJ.out; omega, HS'.out, ?_⟩
            rw [HP.out]
            exact V
          case measure => omega
        have p1 : ¬ (32 : Int) ≤ c.toNat := by omega
        by_cases h10 : c.toNat = 10
        · have n10 : (c.toNat : Int) = 10 := by omega
          have n13 : ¬ (c.toNat : Int) = 13 := by omega
          have n8 : ¬ (c.toNat : Int) = 8 := by omega
          have n12 : ¬ (c.toNat : Int) = 12 := by omega
          rw [if_neg (by omega), if_neg (by omega), if_neg (by omega), if_pos (by omega)] at hput
          have HP := Lib.hid hput
          clear hput hp h32 h10
          go_wp2_with fail
          have V5 := V
          clear BAc BAf BAl V
          refine (rdown_any ⟨cw, ch, x, y, l0⟩ _ _ ⟨b, off, cp, rfl, V5.cap, V5.row⟩ HDK.out).mono ?_
          rintro e w5 ⟨v5, rfl, ⟨b5, off5, c5, hv5, hc5, hr5⟩, hb⟩
          obtain ⟨n, hn⟩ : ∃ n, put1 S c = n := ⟨_, rfl⟩
          have hn3 : nl ⟨cw, ch, x, y, l0⟩ = n := HP.out.symm.trans hn
          have e1 : n.w = cw := by rw [← hn, (put1_w S c).1]; exact hSw.1
          have e2 : n.h = ch := by rw [← hn, (put1_w S c).2]; exact hSw.2
          rw [hn3, e1, e2] at hv5 hr5
          rw [hn3, e2] at hc5
          subst hv5
          have V6 := V5.put hb h1 hc5 hr5 (x' := n.x) (y' := n.y)
          have V7 := V5.below hb
          obtain ⟨nx, hnx⟩ : ∃ k, n.x = k := ⟨_, rfl⟩
          obtain ⟨ny, hny⟩ : ∃ k, n.y = k := ⟨_, rfl⟩
          rw [hnx, hny] at V6 ⊢
          have HN := Lib.hid hn
          have HNX := Lib.hid hnx
          have HNY := Lib.hid hny
          clear hn hn3 e1 e2 hc5 hr5 hb hnx hny
          have BAc := V7.BA.cell; have BAf := V7.BA.frozen; have BAl := V7.BA.lt
          go_wp2_with fail
          go_roundg k
          case rel =>
            refine ⟨j + 1, b5, off5, c5, put1 S c, by simp, by have := HJ.out; omega, HS'.out, ?_⟩
            rw [HN.out]
            exact (by rw [HNX.out, HNY.out]; exact V6)
          case measure => omega
        have n10 : ¬ (c.toNat : Int) = 10 := by omega
        by_cases h13 : c.toNat = 13
        · have n13 : (c.toNat : Int) = 13 := by omega
          have n8 : ¬ (c.toNat : Int) = 8 := by omega
          have n12 : ¬ (c.toNat : Int) = 12 := by omega
          rw [if_pos (by omega)] at hput
          have HP := Lib.hid hput
          clear hput hp h32 h10
          go_wp2_with fail
          have V5 := V.setX 0
          go_roundg k
          case rel =>
            refine ⟨j + 1, b, off, cp, put1 S c, by simp, by have := HJ.out; omega, HS'.out, ?_⟩
            rw [HP.out]
            exact V5
          case measure => omega
        have n13 : ¬ (c.toNat : Int) = 13 := by omega
        by_cases h8 : c.toNat = 8
        · have n8 : (c.toNat : Int) = 8 := by omega
          have n12 : ¬ (c.toNat : Int) = 12 := by omega
          rw [if_neg (by omega), if_pos (by omega)] at hput
          have HP := Lib.hid hput
          clear hput hp h32 h10
          by_cases hx0 : 0 < x
          · have hxi : (0 : Int) < x := by omega
            go_wp2_with fail
            have V5 := V.setX (x - 1)
            rw [show ((x - 1 : Nat) : Int) = (x : Int) - 1 by omega] at V5
            go_roundg k
            case rel =>
              refine ⟨j + 1, b, off, cp, put1 S c, by simp, by have := HJ.out; omega, HS'.out, ?_⟩
              rw [HP.out]
              exact V5
            case measure => omega
          · have hxi : ¬ (0 : Int) < x := by omega
            go_wp2_with fail
            have hxz : x - 1 = x := by omega
            go_roundg k
            case rel =>
              refine ⟨j + 1, b, off, cp, put1 S c, by simp, by have := HJ.out; omega, HS'.out, ?_⟩
              rw [HP.out]
              exact (by rw [hxz]; exact V)
            case measure => omega
        have n8 : ¬ (c.toNat : Int) = 8 := by omega
        by_cases h12 : c.toNat = 12
        · have n12 : (c.toNat : Int) = 12 := by omega
          rw [if_neg (by omega), if_neg (by omega), if_pos (by omega)] at hput
          have HP := Lib.hid hput
          clear hput hp h32 h10
          go_wp2_with fail
          have V5 := V
          clear BAc BAf BAl V
          refine (rnew_any cw ch _ w1 w2 h1 h2).mono ?_
          rintro e w5 ⟨v5, rfl, ⟨b5, off5, c5, hv5, hc5, hr5⟩, hb⟩
          obtain ⟨n, hn⟩ : ∃ n, put1 S c = n := ⟨_, rfl⟩
          have hn3 : newS cw ch = n := HP.out.symm.trans hn
          have e1 : n.w = cw := by rw [← hn, (put1_w S c).1]; exact hSw.1
          have e2 : n.h = ch := by rw [← hn, (put1_w S c).2]; exact hSw.2
          rw [hn3, e1, e2] at hv5 hr5
          rw [hn3, e2] at hc5
          subst hv5
          have V6 := V5.put hb h1 hc5 hr5 (x' := n.x) (y' := n.y)
          have V7 := V5.below hb
          obtain ⟨nx, hnx⟩ : ∃ k, n.x = k := ⟨_, rfl⟩
          obtain ⟨ny, hny⟩ : ∃ k, n.y = k := ⟨_, rfl⟩
          rw [hnx, hny] at V6 ⊢
          have HN := Lib.hid hn
          have HNX := Lib.hid hnx
          have HNY := Lib.hid hny
          clear hn hn3 e1 e2 hc5 hr5 hb hnx hny
          have BAc := V7.BA.cell; have BAf := V7.BA.frozen; have BAl := V7.BA.lt
          go_wp2_with fail
          go_roundg k
          case rel =>
            refine ⟨j + 1, b5, off5, c5, put1 S c, by simp, by have := HJ.out; omega, HS'.out, ?_⟩
            rw [HN.out]
            exact (by rw [HNX.out, HNY.out]; exact V6)
          case measure => omega
        · have n12 : ¬ (c.toNat : Int) = 12 := by omega
          rw [if_neg (by omega), if_neg (by omega), if_neg (by omega), if_neg (by omega)] at hput
          have HP := Lib.hid hput
          clear hput hp h32 h10
          go_wp2_with fail
          go_roundg k
          case rel =>
            refine ⟨j + 1, b, off, cp, put1 S c, by simp, by have := HJ.out; omega, HS'.out, ?_⟩
            rw [HP.out]
            exact V
          case measure => omega
end Go.Proofs.Ytgdmeaoghhkknaa
