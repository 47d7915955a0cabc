/- The document's numbers as bytes: Put. The document's CTR: Stream. The document's CTR: Turn. -/
import Derived.Test.YtkblkdojmfgneaaRAes6
namespace Go.Proofs.Ytkblkdojmfgneaa
open Go.RowKit

theorem putB_snoc (n i : Nat) : putB n (i + 1) = UInt8.ofNat (n / 256 ^ i) :: putB n i := by
  unfold putB
  rw [List.range_succ_eq_map, List.map_cons, List.map_map]
  congr 1
  apply List.map_congr_left
  intro j _
  simp only [Function.comp]
  congr 3
  omega
theorem one_row {W : World} {b : Nat} {c : UInt8} {t : TypeId} (B : Blk W b #[.int .u8 ((c.toNat : Nat) : Int)] t) : BRow W b [c] :=
  ⟨B.lt, fun i hi => by
    obtain rfl : i = 0 := by simp at hi; exact hi
    exact (B.cell 0).trans rfl, fun i _ => B.frozen i⟩
theorem one_text (W : World) (c : UInt8) (t : TypeId) : (convert 36 9 (.slice (some ⟨W.heap.size, 0, none⟩) 1 1)).run Try.prog (W.alloc (.cells #[.int .u8 ((c.toNat : Nat) : Int)] t)) = .ok (.string ⟨#[c]⟩) (W.alloc (.cells #[.int .u8 ((c.toNat : Nat) : Int)] t)) :=
  Lib.run_convert_whole (P := Try.prog) (W.alloc (.cells #[.int .u8 ((c.toNat : Nat) : Int)] t)) 36 5 9 Try.underlying36 Try.underlying5 Try.underlying9 W.heap.size 0 ⟨#[c]⟩ (row_bytes (one_row (Blk.new _ _ _))) 1
set_option maxHeartbeats 4000000 in
set_option maxRecDepth 20000 in
theorem rput_any (n k : Nat) (hn : n ≤ 18446744073709551615) (hk : k ≤ 8) (w : World) : Calls Try.prog 18 #[.int .u64 (n : Int), .int .i64 (k : Int)] w fun e w' => e = .returned (.string ⟨(putB n k).toArray⟩) ∧ Below w.heap.size w w' := by
  go_enter Try.func18, Try.ntmps18
  go_wp2_with fail
  go_loopg [0, 5, 6] k (fun gk t0 t5 t6 wr => ∃ i x : Nat, i + gk = k ∧ t0 = .int .u64 (x : Int) ∧ t5 = .string ⟨(putB n i).toArray⟩ ∧ t6 = .int .i64 (i : Int) ∧ x = n / 256 ^ i ∧ Below w.heap.size w wr)
  case atStart => exact ⟨0, n, by omega, rfl, rfl, rfl, by simp, Below.refl _ _⟩
  case round =>
    obtain ⟨i, x, hi, rfl, rfl, rfl, hx, HB⟩ := hrel
    have HBs := HB.size
    cases gk with
    | zero =>
      obtain rfl : i = k := by omega
      have h1 : ¬ (i : Int) < (i : Int) := by omega
      clear hi hx
      go_wp2_with fail
      go_ret
      exact ⟨rfl, HB⟩
    | succ g =>
      have hik : (i : Int) < (k : Int) := by omega
      have hi8 : (i : Int) < 8 := by omega
      have hxl : x ≤ 18446744073709551615 := by rw [hx]; exact Nat.le_trans (Nat.div_le_self _ _) hn
      have hsn := putB_snoc n i
      rw [← hx] at hsn
      obtain ⟨y, hy⟩ : ∃ y, x / 256 = y := ⟨_, rfl⟩
      have hyi : (x : Int) / 256 = (y : Int) := by omega
      have hy2 : y = n / 256 ^ (i + 1) := by rw [← hy, hx, Nat.div_div_eq_div_mul, Nat.pow_succ]
      obtain ⟨c, hc⟩ : ∃ c, UInt8.ofNat x = c := ⟨_, rfl⟩
      have hci : (x : Int) % 256 = ((c.toNat : Nat) : Int) := by rw [← hc]; simp
      have hci2 : ((c.toNat : Nat) : Int) % 256 = ((c.toNat : Nat) : Int) := by have := c.toNat_lt; omega
      rw [hc] at hsn
      have hap : (⟨#[c]⟩ : ByteArray) ++ ⟨(putB n i).toArray⟩ = ⟨(putB n (i + 1)).toArray⟩ := by rw [hsn]; exact ba_list [c] _
      have hpl := putB_len n i
      obtain ⟨S, hS⟩ : ∃ s : ByteArray, (⟨(putB n i).toArray⟩ : ByteArray) = s := ⟨_, rfl⟩
      obtain ⟨S2, hS2⟩ : ∃ s : ByteArray, (⟨(putB n (i + 1)).toArray⟩ : ByteArray) = s := ⟨_, rfl⟩
      have hSs : S.size = i := by rw [← hS, ba_size]; simpa using hpl
      rw [hS, hS2] at hap
      rw [hS]
      have hcv := one_text wr c 5
      have HI := Lib.hid hi; have HY := Lib.hid hy2; have HS2 := Lib.hid hS2; have HS := Lib.hid hS
      have i8 : i ≤ 8 := by omega
      clear hx hsn hy hy2 hc hi hS hS2 hpl
      go_wp2_with fail
      go_roundg g
      case rel => exact ⟨i + 1, y, by have := HI.out; omega, by simp, by rw [HS2.out], by simp, HY.out, by (repeat (first | (with_reducible assumption) | (with_reducible exact Below.refl _ _) | with_reducible apply bl_drewN | with_reducible apply Below.drew | (with_reducible apply bl_alloc; focus (first | (simp; done) | (simp; omega) | omega)) | (with_reducible apply bl_set; focus (first | (simp; done) | (simp; omega) | omega))))⟩
      case measure => omega
end Go.Proofs.Ytkblkdojmfgneaa

namespace Go.Proofs.Ytkblkdojmfgneaa
open Go.RowKit

/-- Memory. -/
structure RsAt (w wr : World) (rb fb : Nat) (F : List UInt8) : Prop where
  HB : Below w.heap.size w wr
  R : BRow wr rb boxL
  FR : FRow wr fb F
theorem RsAt.below {w wr w' : World} {rb fb : Nat} {F : List UInt8} (h : RsAt w wr rb fb F) (hb : Below wr.heap.size wr w') : RsAt w w' rb fb F :=
  ⟨Below.thn h.HB hb h.HB.size, h.R.below hb, h.FR.below hb⟩
theorem RsAt.low {w wr w' : World} {rb fb n : Nat} {F : List UInt8} (h : RsAt w wr rb fb F) (hb : Below n wr w') (h1 : w.heap.size ≤ n) (h2 : rb < n) (h3 : fb < n) : RsAt w w' rb fb F :=
  ⟨Below.via h.HB hb h1, h.R.keep hb.size (hb.block rb h2), ⟨Nat.lt_of_lt_of_le h.FR.1 hb.size, fun i hi => (hb.cell (p := ⟨fb, i, none⟩) h3).trans (h.FR.2 i hi)⟩⟩
set_option maxHeartbeats 16000000 in
set_option maxRecDepth 20000 in
theorem rstream_any (key : ByteArray) (KL : List UInt8) (hkl : key.data.toList = KL) (hk : key.size = 16) (nonce n : Nat) (hnon : nonce ≤ 18446744073709551615) (hn : n ≤ 65536) (w : World) :
    Calls Try.prog 20 #[.string key, .int .u64 (nonce : Int), .int .i64 (n : Int)] w fun e w' => e = .returned (.string ⟨(streamL KL nonce n).toArray⟩) ∧ Below w.heap.size w w' := by
  have hKL : KL.length = 16 := by rw [← hkl]; exact hk
  obtain ⟨F, hF⟩ : ∃ F, keysN KL 10 = F := ⟨_, rfl⟩
  have HF := Lib.hid hF
  obtain ⟨T, hT⟩ : ∃ T, streamL KL nonce n = T := ⟨_, rfl⟩
  rw [hT]
  have HT := Lib.hid hT
  clear hF hT
  go_enter Try.func20, Try.ntmps20
  go_wp2_with fail
  refine (rbox_any _).mono ?_
  rintro e W1 ⟨rb, c0, rfl, hrb, R1, HB1⟩
  have hs1 := HB1.size
  go_wp2_with fail
  refine (rwords_any key KL hkl hk rb c0 _ R1).mono ?_
  rintro e W2 ⟨fb, c1, rfl, hfb, FR2, hb2⟩
  have V2 : RsAt w W2 rb fb F := ⟨Below.thn HB1 hb2 hs1, R1.below hb2, by rw [← HF.out]; exact FR2⟩
  clear HB1 R1 FR2 hb2 hs1 hrb hfb
  go_wp2_with fail
  go_loopg [7, 10] ((n + 15) / 16) (fun gk t7 t10 wr => ∃ i : Nat, i + gk = (n + 15) / 16 ∧ t7 = .string ⟨((strA KL nonce i).take n).toArray⟩ ∧ t10 = .int .u64 (i : Int) ∧ RsAt w wr rb fb F)
  case atStart => exact ⟨0, by omega, by rw [strA, List.take_nil], rfl, V2⟩
  case round =>
    clear V2
    obtain ⟨i, hi, rfl, rfl, V⟩ := hrel
    have hsl : ((strA KL nonce i).take n).length = min n (16 * i) := by rw [List.length_take, strA_len KL nonce hKL]
    obtain ⟨A, hA⟩ : ∃ A, (strA KL nonce i).take n = A := ⟨_, rfl⟩
    obtain ⟨S, hS⟩ : ∃ s : ByteArray, (⟨A.toArray⟩ : ByteArray) = s := ⟨_, rfl⟩
    rw [hA] at hsl ⊢
    rw [hS]
    have hSs : S.size = min n (16 * i) := by rw [← hS, ba_size]; simpa using hsl
    have HS := Lib.hid hS; have HA := Lib.hid hA
    cases gk with
    | zero =>
      have hge : ¬ (S.size : Int) < (n : Int) := by omega
      have he : S = ⟨T.toArray⟩ := by rw [← hS, ← hA, ← HT.out, show i = (n + 15) / 16 by omega]; rfl
      have HE := Lib.hid he
      clear hS hA hi hsl hSs he
      go_wp2_with fail
      go_ret
      exact ⟨by rw [← HE.out]; rfl, V.HB⟩
    | succ g =>
      have h16 : 16 * i < n := by omega
      have hlt : (S.size : Int) < (n : Int) := by omega
      have hSs2 : S.size = 16 * i := by omega
      have hin : i ≤ 18446744073709551615 := by omega
      have hba := ba_list (putB nonce 8) (putB i 8)
      rw [show putB nonce 8 ++ putB i 8 = ctrB nonce i from rfl] at hba
      obtain ⟨C, hC⟩ : ∃ s : ByteArray, (⟨(ctrB nonce i).toArray⟩ : ByteArray) = s := ⟨_, rfl⟩
      have hCl := ctrB_len nonce i
      have hCs : C.size = 16 := by rw [← hC, ba_size]; simpa using hCl
      have hCd : C.data.toList = ctrB nonce i := by rw [← hC]
      rw [hC] at hba
      have hp1 := putB_len nonce 8; have hp2 := putB_len i 8
      have hVs := V.HB.size
      have HI := Lib.hid hi; have HSS := Lib.hid hSs2; have HCD := Lib.hid hCd
      clear hS hA hi hsl hSs hC hCd hSs2
      go_wp2_with fail
      refine (rput_any nonce 8 hnon (by decide) _).mono ?_
      rintro e W3 ⟨rfl, hb3⟩
      have V3 := V.below hb3
      clear V hb3
      go_wp2_with fail
      refine (rput_any i 8 hin (by decide) _).mono ?_
      rintro e W4 ⟨rfl, hb4⟩
      have V4 := V3.below hb4
      clear V3 hb4
      go_wp2_with fail
      have hbl4 := V4.HB.size
      have hrl := V4.R.lt
      have hfl := V4.FR.1
      refine wp_absQ (fun W => RsAt w W rb fb F ∧ Below W4.heap.size W4 W ∧ Blk W W4.heap.size (bcells (List.replicate 16 0)) 25) ⟨V4.below (by (repeat (first | (with_reducible assumption) | (with_reducible exact Below.refl _ _) | with_reducible apply bl_drewN | with_reducible apply Below.drew | (with_reducible apply bl_alloc; focus (first | (simp; done) | (simp; omega) | omega)) | (with_reducible apply bl_set; focus (first | (simp; done) | (simp; omega) | omega))))), by (repeat (first | (with_reducible assumption) | (with_reducible exact Below.refl _ _) | with_reducible apply bl_drewN | with_reducible apply Below.drew | (with_reducible apply bl_alloc; focus (first | (simp; done) | (simp; omega) | omega)) | (with_reducible apply bl_set; focus (first | (simp; done) | (simp; omega) | omega)))), Blk.new' rfl⟩ (fun W5 V5 => ?_)
      obtain ⟨b, hb⟩ : ∃ b, W4.heap.size = b := ⟨_, rfl⟩
      rw [hb] at V5 hbl4 hrl hfl ⊢
      have HB4 := Lib.hid hb
      clear hb
      obtain ⟨_, L5, B5⟩ := V5
      go_loopg [13] 16 (fun g2 t13 wx => ∃ (k : Nat) (x : List UInt8), k + g2 = 16 ∧ t13 = .int .i64 (k : Int) ∧ Below b W4 wx ∧ Blk wx b (bcells x) 25 ∧ Fill (ctrB nonce i) (List.replicate 16 0) x 16 k)
      case atStart => exact ⟨0, _, rfl, rfl, L5, B5, .start (by simp)⟩
      case round =>
        clear L5 B5
        obtain ⟨k, x, hk2, rfl, L, BB, FI⟩ := hrel
        cases gk with
        | succ g2 =>
          have hk16 : (k : Int) < 16 := by omega
          have hk16n : k < 16 := by omega
          have hk16c : (k : Int) < (C.size : Int) := by omega
          have hkc : k < C.size := by omega
          have F2 := FI.step hk16n
          obtain ⟨v, hv⟩ : ∃ v, (ctrB nonce i).getD k 0 = v := ⟨_, rfl⟩
          have b1 := ba_idx C k hkc v (by rw [HCD.out, hv])
          rw [hv] at F2
          have a3 : wr.cell? ⟨b, k, none⟩ = _ := BB.cell _
          rw [bcells_get _ _ (by rw [FI.len]; omega)] at a3
          have f3 := BB.frozen k
          have B9 := BB.set (o := k) (v := .int .u8 ((v.toNat : Nat) : Int))
          rw [bcells_set] at B9
          have L9 := L.setCell (p := ⟨b, k, none⟩) (Nat.le_refl _) (.int .u8 ((v.toNat : Nat) : Int))
          have HF2 := Lib.hid F2; have HK2 := Lib.hid hk2
          clear hv F2 FI hk2 L BB
          go_wp2_with fail
          go_roundg g2
          case rel => exact ⟨k + 1, _, by have := HK2.out; omega, by simp, L9, B9, HF2.out⟩
          case measure => omega
        | zero =>
          obtain rfl : k = 16 := by omega
          rw [FI.all hCl] at BB
          have hbs := bcells_len _ hCl
          have V6 : RsAt w wr rb fb F := V4.low L hbl4 hrl hfl
          clear hk2 FI
          go_wp2_with (first | (refine wpList_load_row rfl 25 _ rfl b rfl 25 _ (0, 0) _ BB.out Try.underlying25 rfl (by rw [hbs]; kernel_rfl) ?_))
          refine (rby_any KL (ctrB nonce i) hKL hCl rb c0 fb c1 _ V6.R (by rw [HF.out]; exact V6.FR)).mono ?_
          rintro e W7 ⟨rfl, hb7⟩
          have V7 := V6.below hb7
          have hst := strB_len KL nonce i hKL
          obtain ⟨X, hX⟩ : ∃ X, strB KL nonce i = X := ⟨_, rfl⟩
          rw [show encL KL (ctrB nonce i) = X from hX]
          rw [hX] at hst
          have hxs := bcells_len X hst
          have HX := Lib.hid hX
          have h7s := V7.HB.size
          have h7r := V7.R.lt
          have h7f := V7.FR.1
          clear V6 hb7 L BB hX
          go_upto_region 14 with (refine wpList_put rfl 25 _ _ rfl W7.heap.size _ (bcells X) 25 rfl rfl (Blk.new _ _ _) (by rw [hxs]; kernel_rfl) (hxs.trans rfl) (bcells_one X) (fun W8 hp8 X8 => ?_))
          (try simp only [Act.put])
          have L8 : Below W7.heap.size W7 W8 := hp8.below (Nat.le_refl _) (by (repeat (first | (with_reducible assumption) | (with_reducible exact Below.refl _ _) | with_reducible apply bl_drewN | with_reducible apply Below.drew | (with_reducible apply bl_alloc; focus (first | (simp; done) | (simp; omega) | omega)) | (with_reducible apply bl_set; focus (first | (simp; done) | (simp; omega) | omega)))))
          have V8 := V7.low L8 h7s h7r h7f
          obtain ⟨xb, hxb⟩ : ∃ b, W7.heap.size = b := ⟨_, rfl⟩
          rw [hxb] at X8 ⊢
          have hstep := strA_take_succ KL nonce i n hKL h16
          rw [HA.out, HX.out] at hstep
          obtain ⟨d, hd⟩ : ∃ d, n - 16 * i = d := ⟨_, rfl⟩
          obtain ⟨cc, hcc⟩ : ∃ c, min 16 d = c := ⟨_, rfl⟩
          rw [hd, hcc] at hstep
          have hcb : 16 * i + cc ≤ n ∧ cc ≤ 16 ∧ (cc = 16 ∨ 16 * i + cc = n) := by omega
          have HST := Lib.hid hstep; have HCB := Lib.hid hcb
          clear V7 hp8 L8 hxb hstep hd hcc hcb h7s h7r h7f
          go_wp2_with fail
          have hSA : S.data.toList = A := by rw [← HS.out]
          go_loopg [7, 15] cc (fun g2 t7 t15 wx => ∃ (k : Nat) (S1 : ByteArray), k + g2 = cc ∧ t15 = .int .i64 (k : Int) ∧ t7 = .string S1 ∧ S1.data.toList = A ++ X.take k ∧ S1.size = 16 * i + k ∧ RsAt w wx rb fb F ∧ Blk wx xb (bcells X) 25)
          case atStart => exact ⟨0, S, by omega, rfl, rfl, by rw [hSA]; simp, HSS.out, V8, X8⟩
          case round =>
            clear V8 X8 hSA
            obtain ⟨k, S1, hk3, rfl, rfl, hS1, hS1s, V, XB⟩ := hrel
            cases gk with
            | zero =>
              obtain rfl : k = cc := by omega
              rw [HST.out] at hS1
              have he : S1 = ⟨((strA KL nonce (i + 1)).take n).toArray⟩ := ba_ext hS1
              have HE := Lib.hid he; have HS1 := Lib.hid hS1s
              obtain ⟨p1, p2, p3⟩ := HCB.out
              clear hk3 hS1 he hS1s
              by_cases hk16 : k = 16
              · have q1 : ¬ (k : Int) < 16 := by omega
                clear hk16
                go_wp2_with fail
                go_roundg g
                case rel => exact ⟨i + 1, by have := HI.out; omega, by rw [HE.out], by simp, V⟩
                case measure => omega
              · have q1 : (k : Int) < 16 := by omega
                have q2 : ¬ (S1.size : Int) < (n : Int) := by have := HS1.out; omega
                clear hk16
                go_wp2_with fail
                go_roundg g
                case rel => exact ⟨i + 1, by have := HI.out; omega, by rw [HE.out], by simp, V⟩
                case measure => omega
            | succ g2 =>
              have q1 : (k : Int) < 16 := by have := HCB.out; omega
              have q1n : k < 16 := by omega
              have q2 : (S1.size : Int) < (n : Int) := by have := HCB.out; omega
              obtain ⟨c, hc⟩ : ∃ c, X.getD k 0 = c := ⟨_, rfl⟩
              have a1 : wr.cell? ⟨xb, k, none⟩ = _ := XB.cell k
              rw [bcells_get X k (by omega), hc] at a1
              have hx1 : X.take (k + 1) = X.take k ++ [c] := by
                rw [List.take_add_one, ← hc, List.getD_eq_getElem?_getD, List.getElem?_eq_getElem (by omega : k < X.length)]; rfl
              obtain ⟨S2, hS2⟩ : ∃ S2, S1 ++ (⟨#[c]⟩ : ByteArray) = S2 := ⟨_, rfl⟩
              have hS2d : S2.data.toList = A ++ X.take (k + 1) := by
                rw [← hS2, ba_app, hS1, hx1, List.append_assoc]
              have hS2s : S2.size = 16 * i + (k + 1) := by rw [← hS2, sz_app, hS1s]; rfl
              have hcv := one_text wr c 5
              have V9 : RsAt w (wr.alloc (.cells #[.int .u8 ((c.toNat : Nat) : Int)] 5)) rb fb F := V.below (by (repeat (first | (with_reducible assumption) | (with_reducible exact Below.refl _ _) | with_reducible apply bl_drewN | with_reducible apply Below.drew | (with_reducible apply bl_alloc; focus (first | (simp; done) | (simp; omega) | omega)) | (with_reducible apply bl_set; focus (first | (simp; done) | (simp; omega) | omega)))))
              have X9 : Blk (wr.alloc (.cells #[.int .u8 ((c.toNat : Nat) : Int)] 5)) xb (bcells X) 25 := Blk.alloc XB
              have hs6 : S1.size ≤ 65536 := by omega
              have HD2 := Lib.hid hS2d; have HS2 := Lib.hid hS2s; have HK3 := Lib.hid hk3
              clear hc hx1 hS2d hS2s hS1 hS1s hk3 V XB
              go_wp2_with fail
              go_roundg g2
              case rel => exact ⟨k + 1, S2, by have := HK3.out; omega, by simp, rfl, HD2.out, HS2.out, V9, X9⟩
              case measure => omega
end Go.Proofs.Ytkblkdojmfgneaa

namespace Go.Proofs.Ytkblkdojmfgneaa
open Go.RowKit

theorem own_row_some {w : World} {base n c g : Nat} {l : List UInt8} (h : w.ownsRow base 5 1 (.slice (some ⟨g, 0, none⟩) n c) n (l.map bval)) (hl : l.length = n) : base ≤ g ∧ BRow w g l := by
  rcases h.2 with ⟨h5, _⟩ | ⟨q, c, cur, h5, h6, h7, h8, h9, h10, h11⟩
  · cases h5
  · simp only [Value.slice.injEq, Option.some.injEq, Addr.mk.injEq, and_true] at h5
    obtain ⟨rfl, _⟩ := h5
    refine ⟨h6, (Array.getElem?_eq_some_iff.1 h7).1, fun i hi => ?_, fun i hi => ?_⟩
    · have h12 : (cur.toList.take (n * 1))[i]? = cur.toList[i]? := List.getElem?_take_of_lt (by omega)
      rw [h11] at h12
      have B : Blk w g cur 5 := ⟨h7⟩
      rw [B.cell, ← Array.getElem?_toList, ← h12, List.getElem?_map, List.getD_eq_getElem?_getD, List.getElem?_eq_getElem hi]
      rfl
    · have B : Blk w g cur 5 := ⟨h7⟩
      exact B.frozen i
set_option maxHeartbeats 8000000 in
set_option maxRecDepth 20000 in
theorem rturn_any (key s : ByteArray) (KL : List UInt8) (hkl : key.data.toList = KL) (hk : key.size = 16) (nonce : Nat) (hnon : nonce ≤ 18446744073709551615) (hn : s.size ≤ 65536) (w : World) :
    Calls Try.prog 21 #[.string key, .int .u64 (nonce : Int), .string s] w fun e w' => e = .returned (.string ⟨(turnS KL nonce s.data.toList).toArray⟩) ∧ Below w.heap.size w w' := by
  obtain ⟨i0, hi0, hz0, hz1, hz2⟩ := info_parts info5
  have hKL : KL.length = 16 := by rw [← hkl]; exact hk
  obtain ⟨n, hsn⟩ : ∃ n, s.size = n := ⟨_, rfl⟩
  obtain ⟨L, hL⟩ : ∃ L, s.data.toList = L := ⟨_, rfl⟩
  have hLl : L.length = n := by rw [← hL]; exact hsn
  have hTl := turnS_len KL nonce L hKL
  have hX := rstream_any key KL hkl hk nonce n hnon (by omega)
  have hsl := streamL_len KL nonce n hKL
  have htg : ∀ i, i < n → (turnS KL nonce L).getD i 0 = L.getD i 0 ^^^ (streamL KL nonce n).getD i 0 := fun i hi => by
    have e : turnS KL nonce L = addL L (streamL KL nonce n) := by rw [← hLl]; rfl
    rw [e, addL_get L _ i (by omega) (by omega)]
  obtain ⟨T, hT⟩ : ∃ T, turnS KL nonce L = T := ⟨_, rfl⟩
  obtain ⟨x, hx⟩ : ∃ T, streamL KL nonce n = T := ⟨_, rfl⟩
  rw [hT] at hTl htg; rw [hx] at hX hsl htg
  rw [hL, hT]
  obtain ⟨X, hXX⟩ : ∃ q : ByteArray, (⟨x.toArray⟩ : ByteArray) = q := ⟨_, rfl⟩
  rw [hXX] at hX
  have hXs : X.size = n := by rw [← hXX, ba_size]; simpa using hsl
  have hXl : X.data.toList = x := by rw [← hXX]
  have hXi : (X.size : Int) = (n : Int) := by omega
  have hSi : (s.size : Int) = (n : Int) := by omega
  have HX := Lib.hid hX; have HTG := Lib.hid htg; have HL := Lib.hid hL; have HXL := Lib.hid hXl; have HSN := Lib.hid (And.intro hsn hXs)
  rw [hsn] at hn
  clear hX htg hL hXl hXX hT hx hkl hsl hXs hsn
  go_enter Try.func21, Try.ntmps21
  go_wp2_with fail
  refine (HX.out _).mono ?_
  rintro e W1 ⟨rfl, HB1⟩
  have hs1 := HB1.size
  go_wp2_with (refine wpList_make_full _ rfl _ _ 36 rfl W1.heap.size 5 i0 _ 1 Try.underlying36 hi0 hz0 hz1 .i64 .i64 _ _ n rfl rfl (by simp [HSN.out.1]) (by simp [HSN.out.1]) ?c1 ?c2 (Nat.le_refl _) ?_)
  case c1 => rw [hz2]; omega
  case c2 => unfold maxLen; omega
  intro W2 ho2 hg2
  have ho3 : W2.ownsRow W1.heap.size 5 1 (.slice (some ⟨W1.heap.size, 0, none⟩) n n) n ((List.replicate n (0 : UInt8)).map bval) := by rw [← made_bytes]; exact ho2
  obtain ⟨_, R2⟩ := own_row_some ho3 (by simp)
  have HB2 : Below w.heap.size w W2 := HB1.grown hg2 hs1 (fun q hq => by cases hq)
  obtain ⟨b, hb⟩ : ∃ b, W1.heap.size = b := ⟨_, rfl⟩
  rw [hb] at R2 hs1 ⊢
  clear ho2 ho3 hg2 HB1 hb
  go_wp2_with fail
  go_loopg [9] n (fun gk t9 wr => ∃ (i : Nat) (cur : List UInt8), i + gk = n ∧ t9 = .int .i64 (i : Int) ∧ Below w.heap.size w wr ∧ BRow wr b cur ∧ Fill T (List.replicate n 0) cur n i)
  case atStart => exact ⟨0, _, by omega, rfl, HB2, R2, .start (by simp)⟩
  case round =>
    clear HB2 R2
    obtain ⟨i, cur, hi, rfl, HB, R, F⟩ := hrel
    cases gk with
    | zero =>
      obtain rfl : i = n := by omega
      rw [F.all (by omega)] at R
      have hge : ¬ (i : Int) < (i : Int) := by omega
      have hcv : (convert 36 9 (.slice (some ⟨b, 0, none⟩) i i)).run Try.prog wr = .ok (.string ⟨T.toArray⟩) wr := by
        have h5 := Lib.run_convert_whole (P := Try.prog) wr 36 5 9 Try.underlying36 Try.underlying5 Try.underlying9 b 0 ⟨T.toArray⟩ (row_bytes R) i
        rw [show (⟨T.toArray⟩ : ByteArray).size = i by rw [ba_size]; simpa using hTl.trans hLl] at h5
        exact h5
      clear F hi
      go_wp2_with fail
      go_ret
      exact ⟨rfl, HB⟩
    | succ g =>
      have hin : (i : Int) < (n : Int) := by omega
      have hinn : i < n := by omega
      have F2 := F.step hinn
      rw [HTG.out i hinn] at F2
      have q1 : i < s.size := by rw [HSN.out.1]; exact hinn
      have q2 : i < X.size := by rw [HSN.out.2]; exact hinn
      obtain ⟨a1, h1⟩ : ∃ a, L.getD i 0 = a := ⟨_, rfl⟩
      obtain ⟨a2, h2⟩ : ∃ a, x.getD i 0 = a := ⟨_, rfl⟩
      have b1 := ba_idx s i q1 a1 (by rw [HL.out, h1])
      have b2 := ba_idx X i q2 a2 (by rw [HXL.out, h2])
      rw [h1, h2] at F2
      have e1 := sum_xor8 a1 a2
      obtain ⟨v, hv⟩ : ∃ v, a1 ^^^ a2 = v := ⟨_, rfl⟩
      rw [hv] at e1 F2
      have c3 : wr.cell? ⟨b, i, none⟩ = some (.int .u8 (((cur.getD i 0).toNat : Nat) : Int)) := R.cell i (by rw [F.len]; exact hinn)
      have hcl : i < cur.length := by rw [F.len]; exact hinn
      have HF2 := Lib.hid F2; have HI := Lib.hid hi
      clear h1 h2 hv F F2 hi
      go_wp2_with fail
      refine wp_region_gr_tail 10 (by kernel_rfl) (by kernel_rfl) ?_
      simp only [List.take_succ_cons, List.take_zero, List.drop_succ_cons, List.drop_zero]
      repeat (first
        | go_big_quiet_skip
        | ((refine BigFrame.wpQuiet_want rfl (fun K hK => quiet_mk ?_)); apply Exists.intro; refine ⟨fun wq hq => ?_, hK _ ?_⟩
           · go_simp; (try simp only [↓IntWalk.iteOmega]); (try go_bits)
             first | done | rfl | exact ⟨rfl, rfl⟩ | exact ⟨trivial, rfl⟩
           clear hK K; (try simp only [Act.put, List.setIfInBounds_toArray, List.set_cons_zero, List.set_cons_succ])))
      refine wpQuiet_nil ?_
      intro W10 hw10
      have c4 := hw10.cell c3
      have R10 := R.below hw10.out
      have f4 := R10.frz i hcl
      have R11 := R10.set hcl v
      have HB11 := (Below.thn HB hw10.out HB.size).setCell (p := ⟨b, i, none⟩) (by show w.heap.size ≤ b; omega) (.int .u8 ((v.toNat : Nat) : Int))
      have R12 : BRow (W10.setCell ⟨b, i, none⟩ (.int .u8 ((v.toNat : Nat) : Int))) b (cur.set i v) := R11
      clear HB R c3 R10 R11 hw10 e1 b1 b2
      go_wp2_with fail
      go_roundg g
      case rel => exact ⟨i + 1, _, by have := HI.out; omega, by simp, HB11, R12, HF2.out⟩
      case measure => omega
end Go.Proofs.Ytkblkdojmfgneaa
