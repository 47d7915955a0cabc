/- The document's CTR: Turn. -/
import Derived.Test.YtkblkdojmfgneaaRCtr2
namespace Go.Proofs.Ytkblkdojmfgneaa
open Go.RowKit

theorem own_row_some {w : World} {base n c g : Nat} {l : List UInt8} (h : w.ownsRow base 5 1 (.slice (some ⟨g, 0, none⟩) n c) n (l.map bval)) (hl : l.length = n) : base ≤ g ∧ BRow w g l := by
  rcases h.2 with ⟨h5, _⟩ | ⟨q, c, cur, h5, h6, h7, h8, h9, h10, h11⟩
  · cases h5
  · simp only [Value.slice.injEq, Option.some.injEq, Addr.mk.injEq, and_true] at h5
    obtain ⟨rfl, _⟩ := h5
    refine ⟨h6, (Array.getElem?_eq_some_iff.1 h7).1, fun i hi => ?_, fun i hi => ?_⟩
    · have h12 : (cur.toList.take (n * 1))[i]? = cur.toList[i]? := List.getElem?_take_of_lt (by omega)
      rw [h11] at h12
      have B : Blk w g cur 5 := ⟨h7⟩
      rw [B.cell, ← Array.getElem?_toList, ← h12, List.getElem?_map, List.getD_eq_getElem?_getD, List.getElem?_eq_getElem hi]
      rfl
    · have B : Blk w g cur 5 := ⟨h7⟩
      exact B.frozen i
set_option maxHeartbeats 8000000 in
set_option maxRecDepth 20000 in
theorem rturn_any (key s : ByteArray) (KL : List UInt8) (hkl : key.data.toList = KL) (hk : key.size = 16) (nonce : Nat) (hnon : nonce ≤ 18446744073709551615) (hn : s.size ≤ 65536) (w : World) :
    Calls Try.prog 21 #[.string key, .int .u64 (nonce : Int), .string s] w fun e w' => e = .returned (.string ⟨(turnS KL nonce s.data.toList).toArray⟩) ∧ Below w.heap.size w w' := by
  obtain ⟨i0, hi0, hz0, hz1, hz2⟩ := info_parts info5
  have hKL : KL.length = 16 := by rw [← hkl]; exact hk
  obtain ⟨n, hsn⟩ : ∃ n, s.size = n := ⟨_, rfl⟩
  obtain ⟨L, hL⟩ : ∃ L, s.data.toList = L := ⟨_, rfl⟩
  have hLl : L.length = n := by rw [← hL]; exact hsn
  have hTl := turnS_len KL nonce L hKL
  have hX := rstream_any key KL hkl hk nonce n hnon (by omega)
  have hsl := streamL_len KL nonce n hKL
  have htg : ∀ i, i < n → (turnS KL nonce L).getD i 0 = L.getD i 0 ^^^ (streamL KL nonce n).getD i 0 := fun i hi => by
    have e : turnS KL nonce L = addL L (streamL KL nonce n) := by rw [← hLl]; rfl
    rw [e, addL_get L _ i (by omega) (by omega)]
  obtain ⟨T, hT⟩ : ∃ T, turnS KL nonce L = T := ⟨_, rfl⟩
  obtain ⟨x, hx⟩ : ∃ T, streamL KL nonce n = T := ⟨_, rfl⟩
  rw [hT] at hTl htg; rw [hx] at hX hsl htg
  rw [hL, hT]
  obtain ⟨X, hXX⟩ : ∃ q : ByteArray, (⟨x.toArray⟩ : ByteArray) = q := ⟨_, rfl⟩
  rw [hXX] at hX
  have hXs : X.size = n := by rw [← hXX, ba_size]; simpa using hsl
  have hXl : X.data.toList = x := by rw [← hXX]
  have hXi : (X.size : Int) = (n : Int) := by omega
  have hSi : (s.size : Int) = (n : Int) := by omega
  have HX := Lib.hid hX; have HTG := Lib.hid htg; have HL := Lib.hid hL; have HXL := Lib.hid hXl; have HSN := Lib.hid (And.intro hsn hXs)
  rw [hsn] at hn
  clear hX htg hL hXl hXX hT hx hkl hsl hXs hsn
  go_enter Try.func21, Try.ntmps21
  go_wp2_with fail
  refine (HX.out _).mono ?_
  rintro e W1 ⟨rfl, HB1⟩
  have hs1 := HB1.size
  go_wp2_with (refine wpList_make_full _ rfl _ _ 36 rfl W1.heap.size 5 i0 _ 1 Try.underlying36 hi0 hz0 hz1 .i64 .i64 _ _ n rfl rfl (by simp [HSN.out.1]) (by simp [HSN.out.1]) ?c1 ?c2 (Nat.le_refl _) ?_)
  case c1 => rw [hz2]; omega
  case c2 => unfold maxLen; omega
  intro W2 ho2 hg2
  have ho3 : W2.ownsRow W1.heap.size 5 1 (.slice (some ⟨W1.heap.size, 0, none⟩) n n) n ((List.replicate n (0 : UInt8)).map bval) := by rw [← made_bytes]; exact ho2
  obtain ⟨_, R2⟩ := own_row_some ho3 (by simp)
  have HB2 : Below w.heap.size w W2 := HB1.grown hg2 hs1 (fun q hq => by cases hq)
  obtain ⟨b, hb⟩ : ∃ b, W1.heap.size = b := ⟨_, rfl⟩
  rw [hb] at R2 hs1 ⊢
  clear ho2 ho3 hg2 HB1 hb
  go_wp2_with fail
  go_loopg [9] n (fun gk t9 wr => ∃ (i : Nat) (cur : List UInt8), i + gk = n ∧ t9 = .int .i64 (i : Int) ∧ Below w.heap.size w wr ∧ BRow wr b cur ∧ Fill T (List.replicate n 0) cur n i)
  case atStart => exact ⟨0, _, by omega, rfl, HB2, R2, .start (by simp)⟩
  case round =>
    clear HB2 R2
    obtain ⟨i, cur, hi, rfl, HB, R, F⟩ := hrel
    cases gk with
    | zero =>
      obtain rfl : i = n := by omega
      rw [F.all (by omega)] at R
      have hge : ¬ (i : Int) < (i : Int) := by omega
      have hcv : (convert 36 9 (.slice (some ⟨b, 0, none⟩) i i)).run Try.prog wr = .ok (.string ⟨T.toArray⟩) wr := by
        have h5 := Lib.run_convert_whole (P := Try.prog) wr 36 5 9 Try.underlying36 Try.underlying5 Try.underlying9 b 0 ⟨T.toArray⟩ (row_bytes R) i
        rw [show (⟨T.toArray⟩ : ByteArray).size = i by rw [ba_size]; simpa using hTl.trans hLl] at h5
        exact h5
      clear F hi
      go_wp2_with fail
      go_ret
      exact ⟨rfl, HB⟩
    | succ g =>
      have hin : (i : Int) < (n : Int) := by omega
      have hinn : i < n := by omega
      have F2 := F.step hinn
      rw [HTG.out i hinn] at F2
      have q1 : i < s.size := by rw [HSN.out.1]; exact hinn
      have q2 : i < X.size := by rw [HSN.out.2]; exact hinn
      obtain ⟨a1, h1⟩ : ∃ a, L.getD i 0 = a := ⟨_, rfl⟩
      obtain ⟨a2, h2⟩ : ∃ a, x.getD i 0 = a := ⟨_, rfl⟩
      have b1 := ba_idx s i q1 a1 (by rw [HL.out, h1])
      have b2 := ba_idx X i q2 a2 (by rw [HXL.out, h2])
      rw [h1, h2] at F2
      have e1 := sum_xor8 a1 a2
      obtain ⟨v, hv⟩ : ∃ v, a1 ^^^ a2 = v := ⟨_, rfl⟩
      rw [hv] at e1 F2
      have c3 : wr.cell? ⟨b, i, none⟩ = some (.int .u8 (((cur.getD i 0).toNat : Nat) : Int)) := R.cell i (by rw [F.len]; exact hinn)
      have hcl : i < cur.length := by rw [F.len]; exact hinn
      have HF2 := Lib.hid F2; have HI := Lib.hid hi
      clear h1 h2 hv F F2 hi
      go_wp2_with fail
      refine wp_region_gr_tail 10 (by kernel_rfl) (by kernel_rfl) ?_
      simp only [List.take_succ_cons, List.take_zero, List.drop_succ_cons, List.drop_zero]
      repeat (first
        | go_big_quiet_skip
        | ((refine BigFrame.wpQuiet_want rfl (fun K hK => quiet_mk ?_)); apply Exists.intro; refine ⟨fun wq hq => ?_, hK _ ?_⟩
           · go_simp; (try simp only [↓IntWalk.iteOmega]); (try go_bits)
             first | done | rfl | exact ⟨rfl, rfl⟩ | exact ⟨trivial, rfl⟩
           clear hK K; (try simp only [Act.put, List.setIfInBounds_toArray, List.set_cons_zero, List.set_cons_succ])))
      refine wpQuiet_nil ?_
      intro W10 hw10
      have c4 := hw10.cell c3
      have R10 := R.below hw10.out
      have f4 := R10.frz i hcl
      have R11 := R10.set hcl v
      have HB11 := (Below.thn HB hw10.out HB.size).setCell (p := ⟨b, i, none⟩) (by show w.heap.size ≤ b; omega) (.int .u8 ((v.toNat : Nat) : Int))
      have R12 : BRow (W10.setCell ⟨b, i, none⟩ (.int .u8 ((v.toNat : Nat) : Int))) b (cur.set i v) := R11
      clear HB R c3 R10 R11 hw10 e1 b1 b2
      go_wp2_with fail
      go_roundg g
      case rel => exact ⟨i + 1, _, by have := HI.out; omega, by simp, HB11, R12, HF2.out⟩
      case measure => omega
end Go.Proofs.Ytkblkdojmfgneaa
