/- The document's sums: Text. -/
import Derived.Test.YtgceepjfnncilaaRSha5
namespace Go.Proofs.Ytgceepjfnncilaa
open Go.RowKit

theorem textL_get : ∀ (H : List Nat) (i : Nat), i < 4 * H.length → (textL H)[i]? = some (UInt8.ofNat (H.getD (i / 4) 0 / 2 ^ (24 - 8 * (i % 4))))
  | [], i, h => by simp at h
  | x :: r, i, h => by
    have e : textL (x :: r) = [UInt8.ofNat (x / 2 ^ 24), UInt8.ofNat (x / 2 ^ 16), UInt8.ofNat (x / 2 ^ 8), UInt8.ofNat x] ++ textL r := by simp [textL]
    rw [e]
    by_cases h4 : i < 4
    · rw [List.getElem?_append_left (by simpa using h4)]
      have : i = 0 ∨ i = 1 ∨ i = 2 ∨ i = 3 := by omega
      rcases this with rfl | rfl | rfl | rfl <;> simp
    · rw [List.getElem?_append_right (by simp; omega)]
      rw [show (i - [UInt8.ofNat (x / 2 ^ 24), UInt8.ofNat (x / 2 ^ 16), UInt8.ofNat (x / 2 ^ 8), UInt8.ofNat x].length) = i - 4 from rfl, textL_get r (i - 4) (by simp at h; omega)]
      rw [show (i - 4) % 4 = i % 4 by omega, show i / 4 = (i - 4) / 4 + 1 by omega]
      rfl
theorem made_bytes (k : Nat) : (madeCells #[Value.int .u8 0] k).toList = (List.replicate k (0 : UInt8)).map bval := by
  apply List.ext_getElem
  · simp [madeCells]
  · intro i h1 h2
    simp [madeCells, bval, Nat.mod_one]
/-- The bytes, the first i of them. -/
def outB (H : List Nat) (i : Nat) : List UInt8 := (textL H).take i ++ List.replicate (32 - i) 0
theorem outB_len (H : List Nat) (i : Nat) (hH : H.length = 8) (hi : i ≤ 32) : (outB H i).length = 32 := by
  simp [outB, textL_len, hH]; omega
theorem outB_next (H : List Nat) (i : Nat) (hH : H.length = 8) (hi : i < 32) (c : UInt8) (hc : (textL H)[i]? = some c) : (outB H i).set i c = outB H (i + 1) := by
  have hl : ((textL H).take i).length = i := by simp [textL_len, hH]; omega
  unfold outB
  rw [List.set_append_right _ _ (by omega), hl, Nat.sub_self]
  obtain ⟨m, hm⟩ : ∃ m, 32 - i = m + 1 := ⟨32 - i - 1, by omega⟩
  rw [hm, List.replicate_succ, List.set_cons_zero, show 32 - (i + 1) = m by omega, List.take_add_one, hc]
  simp
theorem outB_all (H : List Nat) (hH : H.length = 8) : outB H 32 = textL H := by
  unfold outB
  rw [List.take_of_length_le (by rw [textL_len, hH]; omega)]; simp
set_option maxHeartbeats 4000000 in
set_option maxRecDepth 20000 in
theorem rtext_any (T : ByteArray) (w : World) (hT : T.size ≤ 10000) :
    Calls Try.prog 15 #[.string T] w fun e w' => e = .returned (.string (sumB T)) ∧ Below w.heap.size w w' := by
  obtain ⟨i0, hi0, hz0, hz1, hz2⟩ := info_parts info5
  obtain ⟨F, hF⟩ : ∃ F, wordsL T.data.toList = F := ⟨_, rfl⟩
  have hFw : Words F := by rw [← hF]; exact words_words _
  have hsum : sumB T = ⟨(textL F).toArray⟩ := by rw [← hF]; rfl
  rw [hsum]
  obtain ⟨S, hS⟩ : ∃ S : ByteArray, (⟨(wholeL T.data.toList).toArray⟩ : ByteArray) = S := ⟨_, rfl⟩
  have hSl : S.data.toList = wholeL T.data.toList := by rw [← hS]
  have hSs : S.size = (wholeL T.data.toList).length := by rw [← hSl]; rfl
  obtain ⟨N, hN⟩ : ∃ N, S.size = 64 * N := ⟨S.size / 64, by rw [hSs]; have := whole_mod T.data.toList; omega⟩
  have hNl : N ≤ 200 := by
    have := whole_le T.data.toList
    have h9 : T.data.toList.length = T.size := rfl
    omega
  have hgo : sumGo N constH (S.data.toList.drop (64 * 0)) = F := by
    rw [← hF, hSl]; unfold wordsL; rw [← hSs, hN, Nat.mul_div_cancel_left _ (by decide)]; rfl
  have hW := fun W => rpad_any T W (by omega)
  rw [hS] at hW
  have HW := Lib.hid hW; have HGO := Lib.hid hgo; have HN := Lib.hid hN; have HFW := Lib.hid hFw
  clear hW hgo hFw hF hsum hS hSl hSs
  go_enter Try.func15, Try.ntmps15
  go_wp2_with fail
  refine (HW.out _).mono ?_
  rintro e W1 ⟨rfl, hb1⟩
  have hb1s := hb1.size
  go_wp2_with fail
  refine (rstart_any _).mono ?_
  rintro e W2 ⟨bh, rfl, hlo, B2, hb2⟩
  have HB2 := Below.thn hb1 hb2 hb1s
  have R2 := Row32.of_blk B2
  have hlo2 : w.heap.size ≤ bh := Nat.le_trans hb1s hlo
  clear hb1 hb2 hb1s B2 hlo HW
  go_wp2_with fail
  go_loopg [4, 5] N (fun gk t4 t5 wr => ∃ (k b : Nat) (H : List Nat), t4 = .slice (some ⟨b, 0, none⟩) 8 8 ∧ t5 = .int .i64 ((64 * k : Nat) : Int) ∧ k + gk = N ∧ Words H ∧ sumGo gk H (S.data.toList.drop (64 * k)) = F ∧ Row32 wr b H ∧ w.heap.size ≤ b ∧ Below w.heap.size w wr)
  case atStart => exact ⟨0, bh, constH, rfl, rfl, by omega, start_words, HGO.out, R2, hlo2, HB2⟩
  case round =>
    clear HB2 R2 hlo2 HGO
    obtain ⟨k, b, H, rfl, rfl, hk, hHw, hgo, R, hb, HB⟩ := hrel
    obtain ⟨p, hp⟩ : ∃ p, 64 * k = p := ⟨_, rfl⟩
    rw [hp] at hgo ⊢
    cases gk with
    | zero =>
      have hlt : ¬ (p : Int) < S.size := by rw [hN]; omega
      have hF : H = F := hgo
      subst hF
      have HBs := HB.size
      clear hgo hN
      go_wp2_with (refine wpList_make_full _ rfl _ _ 30 rfl wr.heap.size 5 i0 _ 1 Try.underlying30 hi0 hz0 hz1 .i64 .i64 _ _ 32 rfl rfl rfl rfl ?c1 ?c2 (Nat.le_refl _) ?_)
      case c2 => unfold maxLen; omega
      intro W3 ho hg
      have e := made_bytes 32
      rw [e] at ho
      have hrow : BRow W3 wr.heap.size (List.replicate 32 0) := own_brow ho (by omega) (by simp)
      have g3 : Below wr.heap.size wr W3 := (Below.refl _ _).grown hg (Nat.le_refl _) (fun q hq => by cases hq)
      have HB3 := Below.thn HB g3 HBs
      have R3 := R.below g3
      have hbl : b < wr.heap.size := R.1
      clear ho hg e g3 HB R hlt hp hk
      obtain ⟨ob, hob⟩ : ∃ o, wr.heap.size = o := ⟨_, rfl⟩
      rw [hob] at hrow HBs hbl ⊢
      clear hob
      go_wp2_with fail
      go_loopg [7] 32 (fun gk t7 wx => ∃ i : Nat, t7 = .int .i64 i ∧ i + gk = 32 ∧ Row32 wx b H ∧ BRow wx ob (outB H i) ∧ Below w.heap.size w wx)
      case atStart => exact ⟨0, rfl, rfl, R3, by exact hrow, HB3⟩
      case round =>
        clear R3 hrow HB3
        obtain ⟨i, rfl, hi, R, B, HB⟩ := hrel
        cases gk with
        | zero =>
          obtain rfl : i = 32 := by omega
          rw [outB_all H hHw.1] at B
          have hcv : (convert 30 9 (.slice (some ⟨ob, 0, none⟩) 32 32)).run Try.prog wr = .ok (.string ⟨(textL H).toArray⟩) wr := by
            have h5 := Lib.run_convert_whole (P := Try.prog) wr 30 5 9 Try.underlying30 Try.underlying5 Try.underlying9 ob 0 ⟨(textL H).toArray⟩ (row_bytes B) 32
            have hz : (⟨(textL H).toArray⟩ : ByteArray).size = 32 := by
              show (textL H).length = 32
              rw [textL_len, hHw.1]
            rw [hz] at h5
            exact h5
          clear R B hi
          go_wp2_with fail
          go_ret
          exact ⟨rfl, HB⟩
        | succ gk =>
          have hi' : (i : Int) < 32 := by omega
          have hil : i < 32 := by omega
          have r1 : (i : Int).tdiv 4 = ((i / 4 : Nat) : Int) := (Int.ofNat_tdiv i 4).symm
          have r2 : (i : Int).tmod 4 = ((i % 4 : Nat) : Int) := (Int.ofNat_tmod i 4).symm
          have hget := textL_get H i (by rw [hHw.1]; omega)
          obtain ⟨q, hq⟩ : ∃ q, i / 4 = q := ⟨_, rfl⟩
          obtain ⟨r, hr⟩ : ∃ r, i % 4 = r := ⟨_, rfl⟩
          rw [hq] at r1 hget; rw [hr] at r2 hget
          have hq8 : (q : Int) < 8 := by omega
          have hr4 : r < 4 := by omega
          obtain ⟨x, hx⟩ : ∃ x, H.getD q 0 = x := ⟨_, rfl⟩
          rw [hx] at hget
          obtain ⟨e8, he8⟩ : ∃ e, 8 * r = e := ⟨_, rfl⟩
          have hei : (8 : Int) * r = (e8 : Int) := by omega
          rw [he8] at hget
          obtain ⟨f, hf⟩ : ∃ e, 24 - e8 = e := ⟨_, rfl⟩
          have hfi : (24 : Int) - e8 = (f : Int) := by omega
          have hf0 : (0 : Int) ≤ (f : Int) := by omega
          have hf32 : (f : Int) < 32 := by omega
          rw [hf] at hget
          have hcell : wr.cell? ⟨b, q, none⟩ = some (.int .u32 x) := by rw [R.2 q (by rw [hHw.1]; omega), hx]
          obtain ⟨c, hc⟩ : ∃ c, UInt8.ofNat (x / 2 ^ f) = c := ⟨_, rfl⟩
          have hci : (x : Int) / 2 ^ f % 256 = ((c.toNat : Nat) : Int) := by rw [← hc]; simp
          rw [hc] at hget
          have hnext := outB_next H i hHw.1 hil c hget
          have hlen := outB_len H i hHw.1 (by omega)
          have hx32 : x < 4294967296 := by
            rw [← hx, List.getD_eq_getElem?_getD, List.getElem?_eq_getElem (by rw [hHw.1]; omega)]
            exact hHw.2 _ (List.getElem_mem _)
          have HI := Lib.hid hi; have HNX := Lib.hid hnext
          have hlb := R.1
          clear hget hx hf hc he8 hq hr hi hnext
          have hc4 := B.cell i (by rw [hlen]; exact hil)
          have hf4 := B.frz i (by rw [hlen]; exact hil)
          have hl4 := B.lt
          have B5 := B.set (k := i) (by rw [hlen]; exact hil) c
          rw [HNX.out] at B5
          have R5 : Row32 (wr.setCell ⟨ob, i, none⟩ (bval c)) b H := ⟨by simp [World.setCell]; exact R.1, fun j hj => by
            rw [World.cell?_setCell_other (w := wr) (a := ⟨ob, i, none⟩) (v := bval c) (b := ⟨b, j, none⟩) (h := by first | (simp; done) | (simp; omega))]; exact R.2 j hj⟩
          have HB5 : Below w.heap.size w (wr.setCell ⟨ob, i, none⟩ (bval c)) := HB.setCell (p := ⟨ob, i, none⟩) HBs _
          clear R B HB
          go_upto_region 10 with fail
          refine wp_absQ (fun W => Row32 W b H ∧ BRow W ob (outB H (i + 1)) ∧ Below w.heap.size w W) ⟨R5, B5, HB5⟩ (fun W6 V6 => ?_)
          obtain ⟨R6, B6, HB6⟩ := V6
          clear R5 B5 HB5 hc4 hf4 hl4 hcell hlb
          go_wp2_with fail
          go_roundg gk
          case rel => exact ⟨i + 1, by simp, by have := HI.out; omega, R6, B6, HB6⟩
          case measure => omega
    | succ gk =>
      have hlt : (p : Int) < S.size := by rw [hN]; omega
      obtain ⟨p4, hp4⟩ : ∃ q, p + 64 = q := ⟨_, rfl⟩
      have hpi : (p : Int) + 64 = (p4 : Int) := by omega
      have hple : (p : Int) ≤ (p4 : Int) := by omega
      have hpls : (p4 : Int) ≤ S.size := by rw [hN]; omega
      have hp4b : p4 ≤ 20000 := by omega
      have hpb : (p4 : Int) ≤ 20000 := by omega
      obtain ⟨S64, hS64⟩ : ∃ t, S.extract p p4 = t := ⟨_, rfl⟩
      have hSl : S64.data.toList = (S.data.toList.drop p).take 64 := by rw [← hS64, ba_extract, show p4 - p = 64 by omega]
      have hS6 : S64.size = 64 := by rw [← hS64, ByteArray.size_extract]; omega
      have hgo2 : sumGo gk (stepL H S64.data.toList) (S.data.toList.drop p4) = F := by
        rw [← hgo, hSl]
        show _ = if S.data.toList.drop p = [] then H else _
        have hne : S.data.toList.drop p ≠ [] := by
          intro h
          have := congrArg List.length h
          rw [List.length_drop] at this
          have h9 : S.data.toList.length = S.size := rfl
          simp only [List.length_nil] at this
          omega
        rw [if_neg hne, List.drop_drop, hp4]
      obtain ⟨H2, hH2⟩ : ∃ K, stepL H S64.data.toList = K := ⟨_, rfl⟩
      have hw2 : Words H2 := by rw [← hH2]; exact step_words _ _
      have hst := fun W (r : Row32 W b H) => rstep_any b 8 H hHw S64 W hS6 r
      rw [hH2] at hst hgo2
      have HST := Lib.hid hst; have HGO2 := Lib.hid hgo2; have HK := Lib.hid hk; have HP := Lib.hid hp; have HP4 := Lib.hid hp4
      have HBs := HB.size
      clear hst hgo hgo2 hSl hS6 hH2 hk hp hN hp4
      go_wp2_with fail
      refine (HST.out _ R).mono ?_
      rintro e W3 ⟨b2, rfl, hb2, R3, hb3⟩
      have HB3 := Below.thn HB hb3 HBs
      have hb4 : w.heap.size ≤ b2 := Nat.le_trans HBs hb2
      clear R HB hb3
      go_wp2_with fail
      go_roundg gk
      case rel => exact ⟨k + 1, b2, H2, rfl, by have := HP.out; have := HP4.out; congr 1; omega, by have := HK.out; omega, hw2, by rw [show 64 * (k + 1) = p4 by have := HP.out; have := HP4.out; omega]; exact HGO2.out, R3, hb4, HB3⟩
      case measure => omega
end Go.Proofs.Ytgceepjfnncilaa
