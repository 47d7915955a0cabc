/- The document's CTR: Stream. -/
import Derived.Test.YtkblkdojmfgneaaRCtr1
namespace Go.Proofs.Ytkblkdojmfgneaa
open Go.RowKit

/-- Memory. -/
structure RsAt (w wr : World) (rb fb : Nat) (F : List UInt8) : Prop where
  HB : Below w.heap.size w wr
  R : BRow wr rb boxL
  FR : FRow wr fb F
theorem RsAt.below {w wr w' : World} {rb fb : Nat} {F : List UInt8} (h : RsAt w wr rb fb F) (hb : Below wr.heap.size wr w') : RsAt w w' rb fb F :=
  ⟨Below.thn h.HB hb h.HB.size, h.R.below hb, h.FR.below hb⟩
theorem RsAt.low {w wr w' : World} {rb fb n : Nat} {F : List UInt8} (h : RsAt w wr rb fb F) (hb : Below n wr w') (h1 : w.heap.size ≤ n) (h2 : rb < n) (h3 : fb < n) : RsAt w w' rb fb F :=
  ⟨Below.via h.HB hb h1, h.R.keep hb.size (hb.block rb h2), ⟨Nat.lt_of_lt_of_le h.FR.1 hb.size, fun i hi => (hb.cell (p := ⟨fb, i, none⟩) h3).trans (h.FR.2 i hi)⟩⟩
set_option maxHeartbeats 16000000 in
set_option maxRecDepth 20000 in
theorem rstream_any (key : ByteArray) (KL : List UInt8) (hkl : key.data.toList = KL) (hk : key.size = 16) (nonce n : Nat) (hnon : nonce ≤ 18446744073709551615) (hn : n ≤ 65536) (w : World) :
    Calls Try.prog 20 #[.string key, .int .u64 (nonce : Int), .int .i64 (n : Int)] w fun e w' => e = .returned (.string ⟨(streamL KL nonce n).toArray⟩) ∧ Below w.heap.size w w' := by
  have hKL : KL.length = 16 := by rw [← hkl]; exact hk
  obtain ⟨F, hF⟩ : ∃ F, keysN KL 10 = F := ⟨_, rfl⟩
  have HF := Lib.hid hF
  obtain ⟨T, hT⟩ : ∃ T, streamL KL nonce n = T := ⟨_, rfl⟩
  rw [hT]
  have HT := Lib.hid hT
  clear hF hT
  go_enter Try.func20, Try.ntmps20
  go_wp2_with fail
  refine (rbox_any _).mono ?_
  rintro e W1 ⟨rb, c0, rfl, hrb, R1, HB1⟩
  have hs1 := HB1.size
  go_wp2_with fail
  refine (rwords_any key KL hkl hk rb c0 _ R1).mono ?_
  rintro e W2 ⟨fb, c1, rfl, hfb, FR2, hb2⟩
  have V2 : RsAt w W2 rb fb F := ⟨Below.thn HB1 hb2 hs1, R1.below hb2, by rw [← HF.out]; exact FR2⟩
  clear HB1 R1 FR2 hb2 hs1 hrb hfb
  go_wp2_with fail
  go_loopg [7, 10] ((n + 15) / 16) (fun gk t7 t10 wr => ∃ i : Nat, i + gk = (n + 15) / 16 ∧ t7 = .string ⟨((strA KL nonce i).take n).toArray⟩ ∧ t10 = .int .u64 (i : Int) ∧ RsAt w wr rb fb F)
  case atStart => exact ⟨0, by omega, by rw [strA, List.take_nil], rfl, V2⟩
  case round =>
    clear V2
    obtain ⟨i, hi, rfl, rfl, V⟩ := hrel
    have hsl : ((strA KL nonce i).take n).length = min n (16 * i) := by rw [List.length_take, strA_len KL nonce hKL]
    obtain ⟨A, hA⟩ : ∃ A, (strA KL nonce i).take n = A := ⟨_, rfl⟩
    obtain ⟨S, hS⟩ : ∃ s : ByteArray, (⟨A.toArray⟩ : ByteArray) = s := ⟨_, rfl⟩
    rw [hA] at hsl ⊢
    rw [hS]
    have hSs : S.size = min n (16 * i) := by rw [← hS, ba_size]; simpa using hsl
    have HS := Lib.hid hS; have HA := Lib.hid hA
    cases gk with
    | zero =>
      have hge : ¬ (S.size : Int) < (n : Int) := by omega
      have he : S = ⟨T.toArray⟩ := by rw [← hS, ← hA, ← HT.out, show i = (n + 15) / 16 by omega]; rfl
      have HE := Lib.hid he
      clear hS hA hi hsl hSs he
      go_wp2_with fail
      go_ret
      exact ⟨by rw [← HE.out]; rfl, V.HB⟩
    | succ g =>
      have h16 : 16 * i < n := by omega
      have hlt : (S.size : Int) < (n : Int) := by omega
      have hSs2 : S.size = 16 * i := by omega
      have hin : i ≤ 18446744073709551615 := by omega
      have hba := ba_list (putB nonce 8) (putB i 8)
      rw [show putB nonce 8 ++ putB i 8 = ctrB nonce i from rfl] at hba
      obtain ⟨C, hC⟩ : ∃ s : ByteArray, (⟨(ctrB nonce i).toArray⟩ : ByteArray) = s := ⟨_, rfl⟩
      have hCl := ctrB_len nonce i
      have hCs : C.size = 16 := by rw [← hC, ba_size]; simpa using hCl
      have hCd : C.data.toList = ctrB nonce i := by rw [← hC]
      rw [hC] at hba
      have hp1 := putB_len nonce 8; have hp2 := putB_len i 8
      have hVs := V.HB.size
      have HI := Lib.hid hi; have HSS := Lib.hid hSs2; have HCD := Lib.hid hCd
      clear hS hA hi hsl hSs hC hCd hSs2
      go_wp2_with fail
      refine (rput_any nonce 8 hnon (by decide) _).mono ?_
      rintro e W3 ⟨rfl, hb3⟩
      have V3 := V.below hb3
      clear V hb3
      go_wp2_with fail
      refine (rput_any i 8 hin (by decide) _).mono ?_
      rintro e W4 ⟨rfl, hb4⟩
      have V4 := V3.below hb4
      clear V3 hb4
      go_wp2_with fail
      have hbl4 := V4.HB.size
      have hrl := V4.R.lt
      have hfl := V4.FR.1
      refine wp_absQ (fun W => RsAt w W rb fb F ∧ Below W4.heap.size W4 W ∧ Blk W W4.heap.size (bcells (List.replicate 16 0)) 25) ⟨V4.below (by (repeat (first | (with_reducible assumption) | (with_reducible exact Below.refl _ _) | with_reducible apply bl_drewN | with_reducible apply Below.drew | (with_reducible apply bl_alloc; focus (first | (simp; done) | (simp; omega) | omega)) | (with_reducible apply bl_set; focus (first | (simp; done) | (simp; omega) | omega))))), by (repeat (first | (with_reducible assumption) | (with_reducible exact Below.refl _ _) | with_reducible apply bl_drewN | with_reducible apply Below.drew | (with_reducible apply bl_alloc; focus (first | (simp; done) | (simp; omega) | omega)) | (with_reducible apply bl_set; focus (first | (simp; done) | (simp; omega) | omega)))), Blk.new' rfl⟩ (fun W5 V5 => ?_)
      obtain ⟨b, hb⟩ : ∃ b, W4.heap.size = b := ⟨_, rfl⟩
      rw [hb] at V5 hbl4 hrl hfl ⊢
      have HB4 := Lib.hid hb
      clear hb
      obtain ⟨_, L5, B5⟩ := V5
      go_loopg [13] 16 (fun g2 t13 wx => ∃ (k : Nat) (x : List UInt8), k + g2 = 16 ∧ t13 = .int .i64 (k : Int) ∧ Below b W4 wx ∧ Blk wx b (bcells x) 25 ∧ Fill (ctrB nonce i) (List.replicate 16 0) x 16 k)
      case atStart => exact ⟨0, _, rfl, rfl, L5, B5, .start (by simp)⟩
      case round =>
        clear L5 B5
        obtain ⟨k, x, hk2, rfl, L, BB, FI⟩ := hrel
        cases gk with
        | succ g2 =>
          have hk16 : (k : Int) < 16 := by omega
          have hk16n : k < 16 := by omega
          have hk16c : (k : Int) < (C.size : Int) := by omega
          have hkc : k < C.size := by omega
          have F2 := FI.step hk16n
          obtain ⟨v, hv⟩ : ∃ v, (ctrB nonce i).getD k 0 = v := ⟨_, rfl⟩
          have b1 := ba_idx C k hkc v (by rw [HCD.out, hv])
          rw [hv] at F2
          have a3 : wr.cell? ⟨b, k, none⟩ = _ := BB.cell _
          rw [bcells_get _ _ (by rw [FI.len]; omega)] at a3
          have f3 := BB.frozen k
          have B9 := BB.set (o := k) (v := .int .u8 ((v.toNat : Nat) : Int))
          rw [bcells_set] at B9
          have L9 := L.setCell (p := ⟨b, k, none⟩) (Nat.le_refl _) (.int .u8 ((v.toNat : Nat) : Int))
          have HF2 := Lib.hid F2; have HK2 := Lib.hid hk2
          clear hv F2 FI hk2 L BB
          go_wp2_with fail
          go_roundg g2
          case rel => exact ⟨k + 1, _, by have := HK2.out; omega, by simp, L9, B9, HF2.out⟩
          case measure => omega
        | zero =>
          obtain rfl : k = 16 := by omega
          rw [FI.all hCl] at BB
          have hbs := bcells_len _ hCl
          have V6 : RsAt w wr rb fb F := V4.low L hbl4 hrl hfl
          clear hk2 FI
          go_wp2_with (first | (refine wpList_load_row rfl 25 _ rfl b rfl 25 _ (0, 0) _ BB.out Try.underlying25 rfl (by rw [hbs]; kernel_rfl) ?_))
          refine (rby_any KL (ctrB nonce i) hKL hCl rb c0 fb c1 _ V6.R (by rw [HF.out]; exact V6.FR)).mono ?_
          rintro e W7 ⟨rfl, hb7⟩
          have V7 := V6.below hb7
          have hst := strB_len KL nonce i hKL
          obtain ⟨X, hX⟩ : ∃ X, strB KL nonce i = X := ⟨_, rfl⟩
          rw [show encL KL (ctrB nonce i) = X from hX]
          rw [hX] at hst
          have hxs := bcells_len X hst
          have HX := Lib.hid hX
          have h7s := V7.HB.size
          have h7r := V7.R.lt
          have h7f := V7.FR.1
          clear V6 hb7 L BB hX
          go_upto_region 14 with (refine wpList_put rfl 25 _ _ rfl W7.heap.size _ (bcells X) 25 rfl rfl (Blk.new _ _ _) (by rw [hxs]; kernel_rfl) (hxs.trans rfl) (bcells_one X) (fun W8 hp8 X8 => ?_))
          (try simp only [Act.put])
          have L8 : Below W7.heap.size W7 W8 := hp8.below (Nat.le_refl _) (by (repeat (first | (with_reducible assumption) | (with_reducible exact Below.refl _ _) | with_reducible apply bl_drewN | with_reducible apply Below.drew | (with_reducible apply bl_alloc; focus (first | (simp; done) | (simp; omega) | omega)) | (with_reducible apply bl_set; focus (first | (simp; done) | (simp; omega) | omega)))))
          have V8 := V7.low L8 h7s h7r h7f
          obtain ⟨xb, hxb⟩ : ∃ b, W7.heap.size = b := ⟨_, rfl⟩
          rw [hxb] at X8 ⊢
          have hstep := strA_take_succ KL nonce i n hKL h16
          rw [HA.out, HX.out] at hstep
          obtain ⟨d, hd⟩ : ∃ d, n - 16 * i = d := ⟨_, rfl⟩
          obtain ⟨cc, hcc⟩ : ∃ c, min 16 d = c := ⟨_, rfl⟩
          rw [hd, hcc] at hstep
          have hcb : 16 * i + cc ≤ n ∧ cc ≤ 16 ∧ (cc = 16 ∨ 16 * i + cc = n) := by omega
          have HST := Lib.hid hstep; have HCB := Lib.hid hcb
          clear V7 hp8 L8 hxb hstep hd hcc hcb h7s h7r h7f
          go_wp2_with fail
          have hSA : S.data.toList = A := by rw [← HS.out]
          go_loopg [7, 15] cc (fun g2 t7 t15 wx => ∃ (k : Nat) (S1 : ByteArray), k + g2 = cc ∧ t15 = .int .i64 (k : Int) ∧ t7 = .string S1 ∧ S1.data.toList = A ++ X.take k ∧ S1.size = 16 * i + k ∧ RsAt w wx rb fb F ∧ Blk wx xb (bcells X) 25)
          case atStart => exact ⟨0, S, by omega, rfl, rfl, by rw [hSA]; simp, HSS.out, V8, X8⟩
          case round =>
            clear V8 X8 hSA
            obtain ⟨k, S1, hk3, rfl, rfl, hS1, hS1s, V, XB⟩ := hrel
            cases gk with
            | zero =>
              obtain rfl : k = cc := by omega
              rw [HST.out] at hS1
              have he : S1 = ⟨((strA KL nonce (i + 1)).take n).toArray⟩ := ba_ext hS1
              have HE := Lib.hid he; have HS1 := Lib.hid hS1s
              obtain ⟨p1, p2, p3⟩ := HCB.out
              clear hk3 hS1 he hS1s
              by_cases hk16 : k = 16
              · have q1 : ¬ (k : Int) < 16 := by omega
                clear hk16
                go_wp2_with fail
                go_roundg g
                case rel => exact ⟨i + 1, by have := HI.out; omega, by rw [HE.out], by simp, V⟩
                case measure => omega
              · have q1 : (k : Int) < 16 := by omega
                have q2 : ¬ (S1.size : Int) < (n : Int) := by have := HS1.out; omega
                clear hk16
                go_wp2_with fail
                go_roundg g
                case rel => exact ⟨i + 1, by have := HI.out; omega, by rw [HE.out], by simp, V⟩
                case measure => omega
            | succ g2 =>
              have q1 : (k : Int) < 16 := by have := HCB.out; omega
              have q1n : k < 16 := by omega
              have q2 : (S1.size : Int) < (n : Int) := by have := HCB.out; omega
              obtain ⟨c, hc⟩ : ∃ c, X.getD k 0 = c := ⟨_, rfl⟩
              have a1 : wr.cell? ⟨xb, k, none⟩ = _ := XB.cell k
              rw [bcells_get X k (by omega), hc] at a1
              have hx1 : X.take (k + 1) = X.take k ++ [c] := by
                rw [List.take_add_one, ← hc, List.getD_eq_getElem?_getD, List.getElem?_eq_getElem (by omega : k < X.length)]; rfl
              obtain ⟨S2, hS2⟩ : ∃ S2, S1 ++ (⟨#[c]⟩ : ByteArray) = S2 := ⟨_, rfl⟩
              have hS2d : S2.data.toList = A ++ X.take (k + 1) := by
                rw [← hS2, ba_app, hS1, hx1, List.append_assoc]
              have hS2s : S2.size = 16 * i + (k + 1) := by rw [← hS2, sz_app, hS1s]; rfl
              have hcv := one_text wr c 5
              have V9 : RsAt w (wr.alloc (.cells #[.int .u8 ((c.toNat : Nat) : Int)] 5)) rb fb F := V.below (by (repeat (first | (with_reducible assumption) | (with_reducible exact Below.refl _ _) | with_reducible apply bl_drewN | with_reducible apply Below.drew | (with_reducible apply bl_alloc; focus (first | (simp; done) | (simp; omega) | omega)) | (with_reducible apply bl_set; focus (first | (simp; done) | (simp; omega) | omega)))))
              have X9 : Blk (wr.alloc (.cells #[.int .u8 ((c.toNat : Nat) : Int)] 5)) xb (bcells X) 25 := Blk.alloc XB
              have hs6 : S1.size ≤ 65536 := by omega
              have HD2 := Lib.hid hS2d; have HS2 := Lib.hid hS2s; have HK3 := Lib.hid hk3
              clear hc hx1 hS2d hS2s hS1 hS1s hk3 V XB
              go_wp2_with fail
              go_roundg g2
              case rel => exact ⟨k + 1, S2, by have := HK3.out; omega, by simp, rfl, HD2.out, HS2.out, V9, X9⟩
              case measure => omega
end Go.Proofs.Ytkblkdojmfgneaa
