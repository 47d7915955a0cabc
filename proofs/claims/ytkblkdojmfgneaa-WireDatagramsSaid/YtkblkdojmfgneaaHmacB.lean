/- The document's hmac: Sum. The document's hmac: Derive; the fourth chapter's example. -/
import Derived.Test.YtkblkdojmfgneaaHmacA
namespace Go.Proofs.Ytkblkdojmfgneaa
open Go.RowKit

/-- A block, the first i of its bytes turned, noughts behind. -/
def halfAt (c : UInt8) (l : List UInt8) (i : Nat) : List UInt8 := (l.take i).map (· ^^^ c) ++ List.replicate (64 - i) 0
theorem halfAt_len (c : UInt8) (l : List UInt8) (i : Nat) (hl : l.length = 64) (hi : i ≤ 64) : (halfAt c l i).length = 64 := by
  simp [halfAt, hl]; omega
theorem halfAt_next (c : UInt8) (l : List UInt8) (i : Nat) (hl : l.length = 64) (h : i < 64) : (halfAt c l i).set i (l.getD i 0 ^^^ c) = halfAt c l (i + 1) := by
  have h1 : ((l.take i).map (· ^^^ c)).length = i := by simp; omega
  unfold halfAt
  obtain ⟨m, hm⟩ : ∃ m, 64 - i = m + 1 := ⟨64 - i - 1, by omega⟩
  rw [List.set_append_right _ _ (by omega), h1, Nat.sub_self, hm, List.replicate_succ, List.set_cons_zero, List.take_add_one, List.getElem?_eq_getElem (by omega : i < l.length), List.getD_eq_getElem?_getD, List.getElem?_eq_getElem (by omega : i < l.length), show 64 - (i + 1) = m by omega]
  simp only [Option.toList, List.map_append, List.map_cons, List.map_nil, List.append_assoc, List.cons_append, List.nil_append, Option.getD_some]
theorem halfAt_all (c : UInt8) (l : List UInt8) (h : l.length = 64) : halfAt c l 64 = xorL c l := by
  unfold halfAt xorL
  rw [List.take_of_length_le (by omega)]; simp
def zero64 : Array Value := (List.replicate 64 (Value.int .u8 0)).toArray
theorem run_make64 (W : World) : (Instr.makeSlice 36 (.int .i64 64) (.int .i64 64)).run Try.prog W = .ok (.slice (some ⟨W.heap.size, 0, none⟩) 64 64) (W.alloc (.cells zero64 5)) := by
  have h5 := run_make_row' (P := Try.prog) 36 5 (.int .u8 0) 1 Try.underlying36 info5 rfl .i64 .i64 64 (by omega) (by omega) W
  have e : madeCells #[Value.int .u8 0] 64 = zero64 := by
    apply Array.ext'
    rw [made_bytes, List.map_replicate]; rfl
  rw [e] at h5
  exact h5
theorem zero_row {W : World} {b : Nat} (B : Blk W b zero64 5) (c : UInt8) (P : List UInt8) : BRow W b (halfAt c P 0) := by
  have e : halfAt c P 0 = List.replicate 64 0 := by simp [halfAt]
  rw [e]
  exact ⟨B.lt, fun i hi => by
    have h64 : i < 64 := by simpa using hi
    rw [B.cell, zero64, List.getElem?_toArray, List.getElem?_replicate, if_pos h64, List.getD_eq_getElem?_getD, List.getElem?_replicate, if_pos h64]; rfl, fun i _ => B.frozen i⟩
set_option maxHeartbeats 4000000 in
set_option maxRecDepth 20000 in
theorem rhsum_any (key s : ByteArray) (w : World) (hk : key.size ≤ 5000) (hs : s.size ≤ 5000) :
    Calls Try.prog 71 #[.string key, .string s] w fun e w' => e = .returned (.string (hmacB key s)) ∧ Below w.heap.size w w' := by
  obtain ⟨i0, hi0, hz0, hz1, hz2⟩ := info_parts info5
  have hres : hmacB key s = sumB (padB key 92 ++ sumB (padB key 54 ++ s)) := rfl
  have hAs := padB_size key 92
  have hBs := padB_size key 54
  have hAl : (padB key 92).data.toList = xorL 92 (padL (keyL key.data.toList)) := rfl
  have hBl : (padB key 54).data.toList = xorL 54 (padL (keyL key.data.toList)) := rfl
  have hPl := padL_len (keyL key.data.toList) (keyL_len _)
  obtain ⟨A, hA⟩ : ∃ A, padB key 92 = A := ⟨_, rfl⟩
  obtain ⟨B, hB⟩ : ∃ A, padB key 54 = A := ⟨_, rfl⟩
  rw [hA] at hAs hAl hres; rw [hB] at hBs hBl hres
  have ht1 := fun W => rtext_any (B ++ s) W (by rw [ByteArray.size_append]; omega)
  have hXs : (sumB (B ++ s)).size = 32 := sumB_size _
  obtain ⟨X, hX⟩ : ∃ X, sumB (B ++ s) = X := ⟨_, rfl⟩
  rw [hX] at ht1 hres hXs
  have ht2 := fun W => rtext_any (A ++ X) W (by rw [ByteArray.size_append]; omega)
  rw [← hres] at ht2
  obtain ⟨Y, hY⟩ : ∃ Y, hmacB key s = Y := ⟨_, rfl⟩
  rw [hY] at ht2 ⊢
  have hadd1 : ∀ W, (Op.stringOp .add B s).run Try.prog W = .ok (.string (B ++ s)) W := fun W => run_string_add_sum W _ _ (by omega)
  have hadd2 : ∀ W, (Op.stringOp .add A X).run Try.prog W = .ok (.string (A ++ X)) W := fun W => run_string_add_sum W _ _ (by omega)
  have HT1 := Lib.hid ht1; have HT2 := Lib.hid ht2; have HAS := Lib.hid hAs; have HBS := Lib.hid hBs; have HADD1 := Lib.hid hadd1; have HADD2 := Lib.hid hadd2
  obtain ⟨P, hP⟩ : ∃ P, padL (keyL key.data.toList) = P := ⟨_, rfl⟩
  rw [hP] at hAl hBl hPl
  have HAL := Lib.hid hAl; have HBL := Lib.hid hBl
  clear ht1 ht2 hres hX hA hB hY hXs hAs hBs hAl hBl hadd1 hadd2
  by_cases h64 : 64 < key.size
  · have hki : (64 : Int) < key.size := by omega
    have hkL : (sumB key).data.toList = keyL key.data.toList := by
      rw [sumB_list]; unfold keyL; rw [if_pos (by exact h64)]
    obtain ⟨K, hK⟩ : ∃ K, sumB key = K := ⟨_, rfl⟩
    have hKs : K.size = 32 := by rw [← hK]; exact sumB_size _
    have ht1 := fun W => rtext_any key W (by omega)
    rw [hK] at ht1 hkL
    have HT3 := Lib.hid ht1
    clear ht1 hK
    go_enter Try.func71, Try.ntmps71
    go_wp2_with fail
    refine (HT3.out _).mono ?_
    rintro e W1 ⟨rfl, HB1⟩
    have HB1s := HB1.size
    have HPG : Hid (∀ i, i < 64 → P.getD i 0 = if i < K.size then K.data.toList.getD i 0 else 0) := Lib.hid (fun i hi => by
      rw [← hP, ← hkL]
      unfold padL
      rw [List.getD_eq_getElem?_getD]
      by_cases h : i < K.size
      · rw [if_pos h, List.getElem?_append_left (show i < K.data.toList.length from h), ← List.getD_eq_getElem?_getD]
      · have h9 : K.data.toList.length = K.size := rfl
        rw [if_neg h, List.getElem?_append_right (by omega), List.getElem?_replicate, if_pos (by omega)]; rfl)
    clear hP
    have hmk := run_make64
    go_wp2_with fail
    go_region
    all_goals
      clear hmk
      obtain ⟨WW, hWW⟩ : ∃ WW, ((W1.alloc (.cells zero64 5)).alloc (.cells zero64 5)).drew = WW := ⟨_, rfl⟩
      have hM : Blk WW W1.heap.size zero64 5 ∧ Blk WW (W1.heap.size + 1) zero64 5 ∧ Below w.heap.size w WW := by
        rw [← hWW]
        exact ⟨Blk.drew (Blk.alloc (Blk.new' rfl)), Blk.drew (Blk.new' (by simp)), (by (repeat (first | (with_reducible assumption) | (with_reducible exact Below.refl _ _) | with_reducible apply bl_drewN | with_reducible apply Below.drew | (with_reducible apply bl_alloc; focus (first | (simp; done) | (simp; omega) | omega)) | (with_reducible apply bl_set; focus (first | (simp; done) | (simp; omega) | omega)))))⟩
      rw [hWW]
      clear hWW
      obtain ⟨b2, hb2⟩ : ∃ b, W1.heap.size + 1 = b := ⟨_, rfl⟩
      obtain ⟨b1, hb1⟩ : ∃ b, W1.heap.size = b := ⟨_, rfl⟩
      obtain ⟨hm1, hm2, hmb⟩ := hM
      rw [hb1] at hm1
      rw [hb2] at hm2
      try rw [hb2]
      try rw [hb1]
      have hlo1 : w.heap.size ≤ b1 := by omega
      have hlo2 : w.heap.size ≤ b2 := by omega
      have hn12 : b1 ≠ b2 := by omega
      clear hb1 hb2
    · obtain ⟨hI, hO, hB, hne⟩ := (show Blk WW b1 zero64 5 ∧ Blk WW b2 zero64 5 ∧ Below w.heap.size w WW ∧ b1 ≠ b2 from ⟨hm1, hm2, hmb, hn12⟩)
      have RI : BRow WW b1 (halfAt 54 P 0) := zero_row hI 54 P
      have RO : BRow WW b2 (halfAt 92 P 0) := zero_row hO 92 P
      clear hI hO
      go_wp2_with fail
      go_loopg [7] 64 (fun gk t7 wr => ∃ i : Nat, t7 = .int .i64 i ∧ i + gk = 64 ∧ BRow wr b1 (halfAt 54 P i) ∧ BRow wr b2 (halfAt 92 P i) ∧ Below w.heap.size w wr)
      case atStart => exact ⟨0, rfl, rfl, RI, RO, hB⟩
      case round =>
        clear RI RO hB
        obtain ⟨i, rfl, hi, RI, RO, HB⟩ := hrel
        cases gk with
        | zero =>
          have hi' : ¬ (i : Int) < 64 := by omega
          obtain rfl : i = 64 := by omega
          rw [halfAt_all 54 P hPl] at RI
          rw [halfAt_all 92 P hPl] at RO
          have hcA : ∀ W, BRow W b2 (xorL 92 P) → (convert 36 9 (.slice (some ⟨b2, 0, none⟩) 64 64)).run Try.prog W = .ok (.string A) W := fun W R => by
            have h5 := Lib.run_convert_whole (P := Try.prog) W 36 5 9 Try.underlying36 Try.underlying5 Try.underlying9 b2 0 ⟨(xorL 92 P).toArray⟩ (row_bytes R) 64
            have hz : (⟨(xorL 92 P).toArray⟩ : ByteArray) = A := ba_ext HAL.out.symm
            rw [hz, HAS.out] at h5
            exact h5
          have hcB : ∀ W, BRow W b1 (xorL 54 P) → (convert 36 9 (.slice (some ⟨b1, 0, none⟩) 64 64)).run Try.prog W = .ok (.string B) W := fun W R => by
            have h5 := Lib.run_convert_whole (P := Try.prog) W 36 5 9 Try.underlying36 Try.underlying5 Try.underlying9 b1 0 ⟨(xorL 54 P).toArray⟩ (row_bytes R) 64
            have hz : (⟨(xorL 54 P).toArray⟩ : ByteArray) = B := ba_ext HBL.out.symm
            rw [hz, HBS.out] at h5
            exact h5
          have HCA := Lib.hid hcA; have HCB := Lib.hid hcB
          clear hcA hcB hi
          go_wp2_with fail
          refine wp_region_typed 9 (fun k => match k with  | _ => []) (fun k => match k with  | _ => false) (fun k => match k with | 1 => some ⟨(Unit), (()), (fun _ => .string A), (fun _ _ => True), (fun _ _ _ h _ => h)⟩ | 3 => some ⟨(Unit), (()), (fun _ => .string B), (fun _ _ => True), (fun _ _ _ h _ => h)⟩ | 5 => some ⟨(Unit), (()), (fun _ => .string (B ++ s)), (fun _ _ => True), (fun _ _ _ h _ => h)⟩ | 6 => some ⟨(Unit), (()), (fun _ => .string X), (fun _ _ => True), (fun _ _ _ h _ => h)⟩ | 7 => some ⟨(Unit), (()), (fun _ => .string (A ++ X)), (fun _ _ => True), (fun _ _ _ h _ => h)⟩ | 8 => some ⟨(Unit), (()), (fun _ => .string Y), (fun _ _ => True), (fun _ _ _ h _ => h)⟩ | _ => none) (by kernel_rfl) (by kernel_rfl) (by intro d0 v0 c0 a0 w0 h0; first | (cases d0 <;> exact h0) | exact hP _ _ _ _ _ h0) ?_
          rw [show List.range 9 = [0, 1, 2, 3, 4, 5, 6, 7, 8] from rfl]
          first
            | (refine ty_skip rfl rfl ?_; (try simp only [Act.put, List.setIfInBounds_toArray, List.set_cons_zero, List.set_cons_succ]))
            | (refine ty_pure rfl rfl rfl rfl ?_; apply Exists.intro; refine ⟨fun wq hq hk => ?_, ?_⟩
               · simp only [pureAt]; go_simp; (try simp only [↓IntWalk.iteOmega]); (try go_bits); (try simp only [pureUpon]); (first | done | exact ⟨rfl, rfl⟩ | exact ⟨trivial, rfl⟩ | rfl)
               (try simp only [Act.put, List.setIfInBounds_toArray, List.set_cons_zero, List.set_cons_succ]))
          refine ty_rel rfl rfl _ rfl rfl (fun wq hq hk => ?_) ?_
          · have hc5 := HCA.out wq (RO.below hq.out); simp only [relAt]; go_simp; (try simp only [relUpon]); exact .mk (Below.refl _ _) () rfl trivial
          rintro ⟨⟩
          (try simp only [Act.put, List.setIfInBounds_toArray, List.set_cons_zero, List.set_cons_succ])
          first
            | (refine ty_skip rfl rfl ?_; (try simp only [Act.put, List.setIfInBounds_toArray, List.set_cons_zero, List.set_cons_succ]))
            | (refine ty_pure rfl rfl rfl rfl ?_; apply Exists.intro; refine ⟨fun wq hq hk => ?_, ?_⟩
               · simp only [pureAt]; go_simp; (try simp only [↓IntWalk.iteOmega]); (try go_bits); (try simp only [pureUpon]); (first | done | exact ⟨rfl, rfl⟩ | exact ⟨trivial, rfl⟩ | rfl)
               (try simp only [Act.put, List.setIfInBounds_toArray, List.set_cons_zero, List.set_cons_succ]))
          refine ty_rel rfl rfl _ rfl rfl (fun wq hq hk => ?_) ?_
          · have hc5 := HCB.out wq (RI.below hq.out); simp only [relAt]; go_simp; (try simp only [relUpon]); exact .mk (Below.refl _ _) () rfl trivial
          rintro ⟨⟩
          (try simp only [Act.put, List.setIfInBounds_toArray, List.set_cons_zero, List.set_cons_succ])
          first
            | (refine ty_skip rfl rfl ?_; (try simp only [Act.put, List.setIfInBounds_toArray, List.set_cons_zero, List.set_cons_succ]))
            | (refine ty_pure rfl rfl rfl rfl ?_; apply Exists.intro; refine ⟨fun wq hq hk => ?_, ?_⟩
               · simp only [pureAt]; go_simp; (try simp only [↓IntWalk.iteOmega]); (try go_bits); (try simp only [pureUpon]); (first | done | exact ⟨rfl, rfl⟩ | exact ⟨trivial, rfl⟩ | rfl)
               (try simp only [Act.put, List.setIfInBounds_toArray, List.set_cons_zero, List.set_cons_succ]))
          refine ty_rel rfl rfl _ rfl rfl (fun wq hq hk => ?_) ?_
          · have ra5 := HADD1.out wq; simp only [relAt]; go_simp; (try simp only [relUpon]); exact .mk (Below.refl _ _) () rfl trivial
          rintro ⟨⟩
          (try simp only [Act.put, List.setIfInBounds_toArray, List.set_cons_zero, List.set_cons_succ])
          refine ty_rel rfl rfl _ rfl rfl (fun wq hq hk => ?_) ?_
          · simp only [relAt]; go_simp; (try simp only [relUpon]); (go_at_call 91; refine (HT1.out _).mono ?_; rintro e w9 ⟨rfl, hb9⟩; exact ⟨_, rfl, .mk hb9 () rfl trivial⟩)
          rintro ⟨⟩
          (try simp only [Act.put, List.setIfInBounds_toArray, List.set_cons_zero, List.set_cons_succ])
          refine ty_rel rfl rfl _ rfl rfl (fun wq hq hk => ?_) ?_
          · have ra5 := HADD2.out wq; simp only [relAt]; go_simp; (try simp only [relUpon]); exact .mk (Below.refl _ _) () rfl trivial
          rintro ⟨⟩
          (try simp only [Act.put, List.setIfInBounds_toArray, List.set_cons_zero, List.set_cons_succ])
          refine ty_rel rfl rfl _ rfl rfl (fun wq hq hk => ?_) ?_
          · simp only [relAt]; go_simp; (try simp only [relUpon]); (go_at_call 91; refine (HT2.out _).mono ?_; rintro e w9 ⟨rfl, hb9⟩; exact ⟨_, rfl, .mk hb9 () rfl trivial⟩)
          rintro ⟨⟩
          (try simp only [Act.put, List.setIfInBounds_toArray, List.set_cons_zero, List.set_cons_succ])
          refine ty_nil ?_
          simp only [List.drop_succ_cons, List.drop_zero]
          intro W8 hw8 hΓ
          have HB8 := Below.thn HB hw8.out HB.size
          clear hΓ hw8
          go_wp2_with fail
          go_ret
          exact ⟨rfl, HB8⟩
        | succ gk =>
          have hi' : (i : Int) < 64 := by omega
          have hil : i < 64 := by omega
          obtain ⟨x, hx⟩ : ∃ x, P.getD i 0 = x := ⟨_, rfl⟩
          have hpg := HPG.out i hil
          have ni := halfAt_next 54 P i hPl hil
          have no := halfAt_next 92 P i hPl hil
          have li := halfAt_len 54 P i hPl (by omega)
          have lo := halfAt_len 92 P i hPl (by omega)
          rw [hx] at ni no hpg
          have xi := sum_xor8 x 54
          have xo := sum_xor8 x 92
          rw [show (((54 : UInt8).toNat : Nat) : Int) = 54 from rfl] at xi
          rw [show (((92 : UInt8).toNat : Nat) : Int) = 92 from rfl] at xo
          obtain ⟨yi, hyi⟩ : ∃ y, x ^^^ 54 = y := ⟨_, rfl⟩
          obtain ⟨yo, hyo⟩ : ∃ y, x ^^^ 92 = y := ⟨_, rfl⟩
          rw [hyi] at xi ni; rw [hyo] at xo no
          have HNI := Lib.hid ni; have HNO := Lib.hid no; have HI := Lib.hid hi; have HLI := Lib.hid li; have HLO := Lib.hid lo
          clear ni no hi hx hyi hyo li lo
          by_cases hik : i < K.size
          · have hikI : (i : Int) < K.size := by omega
            rw [if_pos hik] at hpg
            have e1 : (((K[i]'hik).toNat : Nat) : Int) = ((x.toNat : Nat) : Int) := by
              rw [hpg, List.getD_eq_getElem?_getD, List.getElem?_eq_getElem (show i < K.data.toList.length from hik)]; rfl
            clear hpg
            have c1 : ∃ v, wr.cell? ⟨b1, i, none⟩ = some v := ⟨_, RI.cell i (by rw [HLI.out]; exact hil)⟩
            obtain ⟨v1, c1⟩ := c1
            have f1 := RI.frz i (by rw [HLI.out]; exact hil)
            have l1 := RI.lt
            have RI2 := RI.set (k := i) (by rw [HLI.out]; exact hil) yi
            rw [HNI.out] at RI2
            have RO2 := RO.set_ne (a := ⟨b1, i, none⟩) (by show b2 ≠ b1; omega) (bval yi)
            have HB2 := HB.setCell (p := ⟨b1, i, none⟩) (by show w.heap.size ≤ b1; omega) (bval yi)
            go_upto_region 11 with fail
            refine wp_absQ (fun W => BRow W b1 (halfAt 54 P (i + 1)) ∧ BRow W b2 (halfAt 92 P i) ∧ Below w.heap.size w W) ⟨RI2, RO2, HB2⟩ (fun W6 V6 => ?_)
            clear RI RO HB RI2 RO2 HB2 c1 f1 l1
            obtain ⟨RI, RO, HB⟩ := V6
            have c1 : ∃ v, W6.cell? ⟨b2, i, none⟩ = some v := ⟨_, RO.cell i (by rw [HLO.out]; exact hil)⟩
            obtain ⟨v2, c1⟩ := c1
            have f1 := RO.frz i (by rw [HLO.out]; exact hil)
            have l1 := RO.lt
            have RO2 := RO.set (k := i) (by rw [HLO.out]; exact hil) yo
            rw [HNO.out] at RO2
            have RI2 := RI.set_ne (a := ⟨b2, i, none⟩) (by show b1 ≠ b2; omega) (bval yo)
            have HB2 := HB.setCell (p := ⟨b2, i, none⟩) (by show w.heap.size ≤ b2; omega) (bval yo)
            go_upto_region 6 with fail
            refine wp_absQ (fun W => BRow W b1 (halfAt 54 P (i + 1)) ∧ BRow W b2 (halfAt 92 P (i + 1)) ∧ Below w.heap.size w W) ⟨RI2, RO2, HB2⟩ (fun W7 V7 => ?_)
            clear RI RO HB RI2 RO2 HB2 c1 f1 l1
            obtain ⟨RI, RO, HB⟩ := V7
            go_wp2_with fail
            go_roundg gk
            case rel => exact ⟨i + 1, by simp, by have := HI.out; omega, RI, RO, HB⟩
            case measure => omega
          · have hikI : ¬ (i : Int) < K.size := by omega
            rw [if_neg hik] at hpg
            subst hpg
            rw [show (((0 : UInt8).toNat : Nat) : Int) = 0 from rfl] at xi xo
            have c1 : ∃ v, wr.cell? ⟨b1, i, none⟩ = some v := ⟨_, RI.cell i (by rw [HLI.out]; exact hil)⟩
            obtain ⟨v1, c1⟩ := c1
            have f1 := RI.frz i (by rw [HLI.out]; exact hil)
            have l1 := RI.lt
            have RI2 := RI.set (k := i) (by rw [HLI.out]; exact hil) yi
            rw [HNI.out] at RI2
            have RO2 := RO.set_ne (a := ⟨b1, i, none⟩) (by show b2 ≠ b1; omega) (bval yi)
            have HB2 := HB.setCell (p := ⟨b1, i, none⟩) (by show w.heap.size ≤ b1; omega) (bval yi)
            go_upto_region 11 with fail
            refine wp_absQ (fun W => BRow W b1 (halfAt 54 P (i + 1)) ∧ BRow W b2 (halfAt 92 P i) ∧ Below w.heap.size w W) ⟨RI2, RO2, HB2⟩ (fun W6 V6 => ?_)
            clear RI RO HB RI2 RO2 HB2 c1 f1 l1
            obtain ⟨RI, RO, HB⟩ := V6
            have c1 : ∃ v, W6.cell? ⟨b2, i, none⟩ = some v := ⟨_, RO.cell i (by rw [HLO.out]; exact hil)⟩
            obtain ⟨v2, c1⟩ := c1
            have f1 := RO.frz i (by rw [HLO.out]; exact hil)
            have l1 := RO.lt
            have RO2 := RO.set (k := i) (by rw [HLO.out]; exact hil) yo
            rw [HNO.out] at RO2
            have RI2 := RI.set_ne (a := ⟨b2, i, none⟩) (by show b1 ≠ b2; omega) (bval yo)
            have HB2 := HB.setCell (p := ⟨b2, i, none⟩) (by show w.heap.size ≤ b2; omega) (bval yo)
            go_upto_region 6 with fail
            refine wp_absQ (fun W => BRow W b1 (halfAt 54 P (i + 1)) ∧ BRow W b2 (halfAt 92 P (i + 1)) ∧ Below w.heap.size w W) ⟨RI2, RO2, HB2⟩ (fun W7 V7 => ?_)
            clear RI RO HB RI2 RO2 HB2 c1 f1 l1
            obtain ⟨RI, RO, HB⟩ := V7
            go_wp2_with fail
            go_roundg gk
            case rel => exact ⟨i + 1, by simp, by have := HI.out; omega, RI, RO, HB⟩
            case measure => omega
    · obtain ⟨hI, hO, hB, hne⟩ := (show Blk WW b2 zero64 5 ∧ Blk WW b1 zero64 5 ∧ Below w.heap.size w WW ∧ b1 ≠ b2 from ⟨hm2, hm1, hmb, hn12⟩)
      have RI : BRow WW b2 (halfAt 54 P 0) := zero_row hI 54 P
      have RO : BRow WW b1 (halfAt 92 P 0) := zero_row hO 92 P
      clear hI hO
      go_wp2_with fail
      go_loopg [7] 64 (fun gk t7 wr => ∃ i : Nat, t7 = .int .i64 i ∧ i + gk = 64 ∧ BRow wr b2 (halfAt 54 P i) ∧ BRow wr b1 (halfAt 92 P i) ∧ Below w.heap.size w wr)
      case atStart => exact ⟨0, rfl, rfl, RI, RO, hB⟩
      case round =>
        clear RI RO hB
        obtain ⟨i, rfl, hi, RI, RO, HB⟩ := hrel
        cases gk with
        | zero =>
          have hi' : ¬ (i : Int) < 64 := by omega
          obtain rfl : i = 64 := by omega
          rw [halfAt_all 54 P hPl] at RI
          rw [halfAt_all 92 P hPl] at RO
          have hcA : ∀ W, BRow W b1 (xorL 92 P) → (convert 36 9 (.slice (some ⟨b1, 0, none⟩) 64 64)).run Try.prog W = .ok (.string A) W := fun W R => by
            have h5 := Lib.run_convert_whole (P := Try.prog) W 36 5 9 Try.underlying36 Try.underlying5 Try.underlying9 b1 0 ⟨(xorL 92 P).toArray⟩ (row_bytes R) 64
            have hz : (⟨(xorL 92 P).toArray⟩ : ByteArray) = A := ba_ext HAL.out.symm
            rw [hz, HAS.out] at h5
            exact h5
          have hcB : ∀ W, BRow W b2 (xorL 54 P) → (convert 36 9 (.slice (some ⟨b2, 0, none⟩) 64 64)).run Try.prog W = .ok (.string B) W := fun W R => by
            have h5 := Lib.run_convert_whole (P := Try.prog) W 36 5 9 Try.underlying36 Try.underlying5 Try.underlying9 b2 0 ⟨(xorL 54 P).toArray⟩ (row_bytes R) 64
            have hz : (⟨(xorL 54 P).toArray⟩ : ByteArray) = B := ba_ext HBL.out.symm
            rw [hz, HBS.out] at h5
            exact h5
          have HCA := Lib.hid hcA; have HCB := Lib.hid hcB
          clear hcA hcB hi
          go_wp2_with fail
          refine wp_region_typed 9 (fun k => match k with  | _ => []) (fun k => match k with  | _ => false) (fun k => match k with | 1 => some ⟨(Unit), (()), (fun _ => .string A), (fun _ _ => True), (fun _ _ _ h _ => h)⟩ | 3 => some ⟨(Unit), (()), (fun _ => .string B), (fun _ _ => True), (fun _ _ _ h _ => h)⟩ | 5 => some ⟨(Unit), (()), (fun _ => .string (B ++ s)), (fun _ _ => True), (fun _ _ _ h _ => h)⟩ | 6 => some ⟨(Unit), (()), (fun _ => .string X), (fun _ _ => True), (fun _ _ _ h _ => h)⟩ | 7 => some ⟨(Unit), (()), (fun _ => .string (A ++ X)), (fun _ _ => True), (fun _ _ _ h _ => h)⟩ | 8 => some ⟨(Unit), (()), (fun _ => .string Y), (fun _ _ => True), (fun _ _ _ h _ => h)⟩ | _ => none) (by kernel_rfl) (by kernel_rfl) (by intro d0 v0 c0 a0 w0 h0; first | (cases d0 <;> exact h0) | exact hP _ _ _ _ _ h0) ?_
          rw [show List.range 9 = [0, 1, 2, 3, 4, 5, 6, 7, 8] from rfl]
          first
            | (refine ty_skip rfl rfl ?_; (try simp only [Act.put, List.setIfInBounds_toArray, List.set_cons_zero, List.set_cons_succ]))
            | (refine ty_pure rfl rfl rfl rfl ?_; apply Exists.intro; refine ⟨fun wq hq hk => ?_, ?_⟩
               · simp only [pureAt]; go_simp; (try simp only [↓IntWalk.iteOmega]); (try go_bits); (try simp only [pureUpon]); (first | done | exact ⟨rfl, rfl⟩ | exact ⟨trivial, rfl⟩ | rfl)
               (try simp only [Act.put, List.setIfInBounds_toArray, List.set_cons_zero, List.set_cons_succ]))
          refine ty_rel rfl rfl _ rfl rfl (fun wq hq hk => ?_) ?_
          · have hc5 := HCA.out wq (RO.below hq.out); simp only [relAt]; go_simp; (try simp only [relUpon]); exact .mk (Below.refl _ _) () rfl trivial
          rintro ⟨⟩
          (try simp only [Act.put, List.setIfInBounds_toArray, List.set_cons_zero, List.set_cons_succ])
          first
            | (refine ty_skip rfl rfl ?_; (try simp only [Act.put, List.setIfInBounds_toArray, List.set_cons_zero, List.set_cons_succ]))
            | (refine ty_pure rfl rfl rfl rfl ?_; apply Exists.intro; refine ⟨fun wq hq hk => ?_, ?_⟩
               · simp only [pureAt]; go_simp; (try simp only [↓IntWalk.iteOmega]); (try go_bits); (try simp only [pureUpon]); (first | done | exact ⟨rfl, rfl⟩ | exact ⟨trivial, rfl⟩ | rfl)
               (try simp only [Act.put, List.setIfInBounds_toArray, List.set_cons_zero, List.set_cons_succ]))
          refine ty_rel rfl rfl _ rfl rfl (fun wq hq hk => ?_) ?_
          · have hc5 := HCB.out wq (RI.below hq.out); simp only [relAt]; go_simp; (try simp only [relUpon]); exact .mk (Below.refl _ _) () rfl trivial
          rintro ⟨⟩
          (try simp only [Act.put, List.setIfInBounds_toArray, List.set_cons_zero, List.set_cons_succ])
          first
            | (refine ty_skip rfl rfl ?_; (try simp only [Act.put, List.setIfInBounds_toArray, List.set_cons_zero, List.set_cons_succ]))
            | (refine ty_pure rfl rfl rfl rfl ?_; apply Exists.intro; refine ⟨fun wq hq hk => ?_, ?_⟩
               · simp only [pureAt]; go_simp; (try simp only [↓IntWalk.iteOmega]); (try go_bits); (try simp only [pureUpon]); (first | done | exact ⟨rfl, rfl⟩ | exact ⟨trivial, rfl⟩ | rfl)
               (try simp only [Act.put, List.setIfInBounds_toArray, List.set_cons_zero, List.set_cons_succ]))
          refine ty_rel rfl rfl _ rfl rfl (fun wq hq hk => ?_) ?_
          · have ra5 := HADD1.out wq; simp only [relAt]; go_simp; (try simp only [relUpon]); exact .mk (Below.refl _ _) () rfl trivial
          rintro ⟨⟩
          (try simp only [Act.put, List.setIfInBounds_toArray, List.set_cons_zero, List.set_cons_succ])
          refine ty_rel rfl rfl _ rfl rfl (fun wq hq hk => ?_) ?_
          · simp only [relAt]; go_simp; (try simp only [relUpon]); (go_at_call 91; refine (HT1.out _).mono ?_; rintro e w9 ⟨rfl, hb9⟩; exact ⟨_, rfl, .mk hb9 () rfl trivial⟩)
          rintro ⟨⟩
          (try simp only [Act.put, List.setIfInBounds_toArray, List.set_cons_zero, List.set_cons_succ])
          refine ty_rel rfl rfl _ rfl rfl (fun wq hq hk => ?_) ?_
          · have ra5 := HADD2.out wq; simp only [relAt]; go_simp; (try simp only [relUpon]); exact .mk (Below.refl _ _) () rfl trivial
          rintro ⟨⟩
          (try simp only [Act.put, List.setIfInBounds_toArray, List.set_cons_zero, List.set_cons_succ])
          refine ty_rel rfl rfl _ rfl rfl (fun wq hq hk => ?_) ?_
          · simp only [relAt]; go_simp; (try simp only [relUpon]); (go_at_call 91; refine (HT2.out _).mono ?_; rintro e w9 ⟨rfl, hb9⟩; exact ⟨_, rfl, .mk hb9 () rfl trivial⟩)
          rintro ⟨⟩
          (try simp only [Act.put, List.setIfInBounds_toArray, List.set_cons_zero, List.set_cons_succ])
          refine ty_nil ?_
          simp only [List.drop_succ_cons, List.drop_zero]
          intro W8 hw8 hΓ
          have HB8 := Below.thn HB hw8.out HB.size
          clear hΓ hw8
          go_wp2_with fail
          go_ret
          exact ⟨rfl, HB8⟩
        | succ gk =>
          have hi' : (i : Int) < 64 := by omega
          have hil : i < 64 := by omega
          obtain ⟨x, hx⟩ : ∃ x, P.getD i 0 = x := ⟨_, rfl⟩
          have hpg := HPG.out i hil
          have ni := halfAt_next 54 P i hPl hil
          have no := halfAt_next 92 P i hPl hil
          have li := halfAt_len 54 P i hPl (by omega)
          have lo := halfAt_len 92 P i hPl (by omega)
          rw [hx] at ni no hpg
          have xi := sum_xor8 x 54
          have xo := sum_xor8 x 92
          rw [show (((54 : UInt8).toNat : Nat) : Int) = 54 from rfl] at xi
          rw [show (((92 : UInt8).toNat : Nat) : Int) = 92 from rfl] at xo
          obtain ⟨yi, hyi⟩ : ∃ y, x ^^^ 54 = y := ⟨_, rfl⟩
          obtain ⟨yo, hyo⟩ : ∃ y, x ^^^ 92 = y := ⟨_, rfl⟩
          rw [hyi] at xi ni; rw [hyo] at xo no
          have HNI := Lib.hid ni; have HNO := Lib.hid no; have HI := Lib.hid hi; have HLI := Lib.hid li; have HLO := Lib.hid lo
          clear ni no hi hx hyi hyo li lo
          by_cases hik : i < K.size
          · have hikI : (i : Int) < K.size := by omega
            rw [if_pos hik] at hpg
            have e1 : (((K[i]'hik).toNat : Nat) : Int) = ((x.toNat : Nat) : Int) := by
              rw [hpg, List.getD_eq_getElem?_getD, List.getElem?_eq_getElem (show i < K.data.toList.length from hik)]; rfl
            clear hpg
            have c1 : ∃ v, wr.cell? ⟨b2, i, none⟩ = some v := ⟨_, RI.cell i (by rw [HLI.out]; exact hil)⟩
            obtain ⟨v1, c1⟩ := c1
            have f1 := RI.frz i (by rw [HLI.out]; exact hil)
            have l1 := RI.lt
            have RI2 := RI.set (k := i) (by rw [HLI.out]; exact hil) yi
            rw [HNI.out] at RI2
            have RO2 := RO.set_ne (a := ⟨b2, i, none⟩) (by show b1 ≠ b2; omega) (bval yi)
            have HB2 := HB.setCell (p := ⟨b2, i, none⟩) (by show w.heap.size ≤ b2; omega) (bval yi)
            go_upto_region 11 with fail
            refine wp_absQ (fun W => BRow W b2 (halfAt 54 P (i + 1)) ∧ BRow W b1 (halfAt 92 P i) ∧ Below w.heap.size w W) ⟨RI2, RO2, HB2⟩ (fun W6 V6 => ?_)
            clear RI RO HB RI2 RO2 HB2 c1 f1 l1
            obtain ⟨RI, RO, HB⟩ := V6
            have c1 : ∃ v, W6.cell? ⟨b1, i, none⟩ = some v := ⟨_, RO.cell i (by rw [HLO.out]; exact hil)⟩
            obtain ⟨v2, c1⟩ := c1
            have f1 := RO.frz i (by rw [HLO.out]; exact hil)
            have l1 := RO.lt
            have RO2 := RO.set (k := i) (by rw [HLO.out]; exact hil) yo
            rw [HNO.out] at RO2
            have RI2 := RI.set_ne (a := ⟨b1, i, none⟩) (by show b2 ≠ b1; omega) (bval yo)
            have HB2 := HB.setCell (p := ⟨b1, i, none⟩) (by show w.heap.size ≤ b1; omega) (bval yo)
            go_upto_region 6 with fail
            refine wp_absQ (fun W => BRow W b2 (halfAt 54 P (i + 1)) ∧ BRow W b1 (halfAt 92 P (i + 1)) ∧ Below w.heap.size w W) ⟨RI2, RO2, HB2⟩ (fun W7 V7 => ?_)
            clear RI RO HB RI2 RO2 HB2 c1 f1 l1
            obtain ⟨RI, RO, HB⟩ := V7
            go_wp2_with fail
            go_roundg gk
            case rel => exact ⟨i + 1, by simp, by have := HI.out; omega, RI, RO, HB⟩
            case measure => omega
          · have hikI : ¬ (i : Int) < K.size := by omega
            rw [if_neg hik] at hpg
            subst hpg
            rw [show (((0 : UInt8).toNat : Nat) : Int) = 0 from rfl] at xi xo
            have c1 : ∃ v, wr.cell? ⟨b2, i, none⟩ = some v := ⟨_, RI.cell i (by rw [HLI.out]; exact hil)⟩
            obtain ⟨v1, c1⟩ := c1
            have f1 := RI.frz i (by rw [HLI.out]; exact hil)
            have l1 := RI.lt
            have RI2 := RI.set (k := i) (by rw [HLI.out]; exact hil) yi
            rw [HNI.out] at RI2
            have RO2 := RO.set_ne (a := ⟨b2, i, none⟩) (by show b1 ≠ b2; omega) (bval yi)
            have HB2 := HB.setCell (p := ⟨b2, i, none⟩) (by show w.heap.size ≤ b2; omega) (bval yi)
            go_upto_region 11 with fail
            refine wp_absQ (fun W => BRow W b2 (halfAt 54 P (i + 1)) ∧ BRow W b1 (halfAt 92 P i) ∧ Below w.heap.size w W) ⟨RI2, RO2, HB2⟩ (fun W6 V6 => ?_)
            clear RI RO HB RI2 RO2 HB2 c1 f1 l1
            obtain ⟨RI, RO, HB⟩ := V6
            have c1 : ∃ v, W6.cell? ⟨b1, i, none⟩ = some v := ⟨_, RO.cell i (by rw [HLO.out]; exact hil)⟩
            obtain ⟨v2, c1⟩ := c1
            have f1 := RO.frz i (by rw [HLO.out]; exact hil)
            have l1 := RO.lt
            have RO2 := RO.set (k := i) (by rw [HLO.out]; exact hil) yo
            rw [HNO.out] at RO2
            have RI2 := RI.set_ne (a := ⟨b1, i, none⟩) (by show b2 ≠ b1; omega) (bval yo)
            have HB2 := HB.setCell (p := ⟨b1, i, none⟩) (by show w.heap.size ≤ b1; omega) (bval yo)
            go_upto_region 6 with fail
            refine wp_absQ (fun W => BRow W b2 (halfAt 54 P (i + 1)) ∧ BRow W b1 (halfAt 92 P (i + 1)) ∧ Below w.heap.size w W) ⟨RI2, RO2, HB2⟩ (fun W7 V7 => ?_)
            clear RI RO HB RI2 RO2 HB2 c1 f1 l1
            obtain ⟨RI, RO, HB⟩ := V7
            go_wp2_with fail
            go_roundg gk
            case rel => exact ⟨i + 1, by simp, by have := HI.out; omega, RI, RO, HB⟩
            case measure => omega
  · have hki : ¬ (64 : Int) < key.size := by omega
    have hkL : key.data.toList = keyL key.data.toList := by unfold keyL; rw [if_neg (by exact h64)]
    have HB1 : Below w.heap.size w w := Below.refl _ _
    have HB1s := HB1.size
    go_enter Try.func71, Try.ntmps71
    have HPG : Hid (∀ i, i < 64 → P.getD i 0 = if i < key.size then key.data.toList.getD i 0 else 0) := Lib.hid (fun i hi => by
      rw [← hP, ← hkL]
      unfold padL
      rw [List.getD_eq_getElem?_getD]
      by_cases h : i < key.size
      · rw [if_pos h, List.getElem?_append_left (show i < key.data.toList.length from h), ← List.getD_eq_getElem?_getD]
      · have h9 : key.data.toList.length = key.size := rfl
        rw [if_neg h, List.getElem?_append_right (by omega), List.getElem?_replicate, if_pos (by omega)]; rfl)
    clear hP
    have hmk := run_make64
    go_wp2_with fail
    go_region
    all_goals
      clear hmk
      obtain ⟨WW, hWW⟩ : ∃ WW, ((w.alloc (.cells zero64 5)).alloc (.cells zero64 5)).drew = WW := ⟨_, rfl⟩
      have hM : Blk WW w.heap.size zero64 5 ∧ Blk WW (w.heap.size + 1) zero64 5 ∧ Below w.heap.size w WW := by
        rw [← hWW]
        exact ⟨Blk.drew (Blk.alloc (Blk.new' rfl)), Blk.drew (Blk.new' (by simp)), (by (repeat (first | (with_reducible assumption) | (with_reducible exact Below.refl _ _) | with_reducible apply bl_drewN | with_reducible apply Below.drew | (with_reducible apply bl_alloc; focus (first | (simp; done) | (simp; omega) | omega)) | (with_reducible apply bl_set; focus (first | (simp; done) | (simp; omega) | omega)))))⟩
      rw [hWW]
      clear hWW
      obtain ⟨b2, hb2⟩ : ∃ b, w.heap.size + 1 = b := ⟨_, rfl⟩
      obtain ⟨b1, hb1⟩ : ∃ b, w.heap.size = b := ⟨_, rfl⟩
      obtain ⟨hm1, hm2, hmb⟩ := hM
      rw [hb1] at hm1
      rw [hb2] at hm2
      try rw [hb2]
      try rw [hb1]
      have hlo1 : w.heap.size ≤ b1 := by omega
      have hlo2 : w.heap.size ≤ b2 := by omega
      have hn12 : b1 ≠ b2 := by omega
      clear hb1 hb2
    · obtain ⟨hI, hO, hB, hne⟩ := (show Blk WW b1 zero64 5 ∧ Blk WW b2 zero64 5 ∧ Below w.heap.size w WW ∧ b1 ≠ b2 from ⟨hm1, hm2, hmb, hn12⟩)
      have RI : BRow WW b1 (halfAt 54 P 0) := zero_row hI 54 P
      have RO : BRow WW b2 (halfAt 92 P 0) := zero_row hO 92 P
      clear hI hO
      go_wp2_with fail
      go_loopg [7] 64 (fun gk t7 wr => ∃ i : Nat, t7 = .int .i64 i ∧ i + gk = 64 ∧ BRow wr b1 (halfAt 54 P i) ∧ BRow wr b2 (halfAt 92 P i) ∧ Below w.heap.size w wr)
      case atStart => exact ⟨0, rfl, rfl, RI, RO, hB⟩
      case round =>
        clear RI RO hB
        obtain ⟨i, rfl, hi, RI, RO, HB⟩ := hrel
        cases gk with
        | zero =>
          have hi' : ¬ (i : Int) < 64 := by omega
          obtain rfl : i = 64 := by omega
          rw [halfAt_all 54 P hPl] at RI
          rw [halfAt_all 92 P hPl] at RO
          have hcA : ∀ W, BRow W b2 (xorL 92 P) → (convert 36 9 (.slice (some ⟨b2, 0, none⟩) 64 64)).run Try.prog W = .ok (.string A) W := fun W R => by
            have h5 := Lib.run_convert_whole (P := Try.prog) W 36 5 9 Try.underlying36 Try.underlying5 Try.underlying9 b2 0 ⟨(xorL 92 P).toArray⟩ (row_bytes R) 64
            have hz : (⟨(xorL 92 P).toArray⟩ : ByteArray) = A := ba_ext HAL.out.symm
            rw [hz, HAS.out] at h5
            exact h5
          have hcB : ∀ W, BRow W b1 (xorL 54 P) → (convert 36 9 (.slice (some ⟨b1, 0, none⟩) 64 64)).run Try.prog W = .ok (.string B) W := fun W R => by
            have h5 := Lib.run_convert_whole (P := Try.prog) W 36 5 9 Try.underlying36 Try.underlying5 Try.underlying9 b1 0 ⟨(xorL 54 P).toArray⟩ (row_bytes R) 64
            have hz : (⟨(xorL 54 P).toArray⟩ : ByteArray) = B := ba_ext HBL.out.symm
            rw [hz, HBS.out] at h5
            exact h5
          have HCA := Lib.hid hcA; have HCB := Lib.hid hcB
          clear hcA hcB hi
          go_wp2_with fail
          refine wp_region_typed 9 (fun k => match k with  | _ => []) (fun k => match k with  | _ => false) (fun k => match k with | 1 => some ⟨(Unit), (()), (fun _ => .string A), (fun _ _ => True), (fun _ _ _ h _ => h)⟩ | 3 => some ⟨(Unit), (()), (fun _ => .string B), (fun _ _ => True), (fun _ _ _ h _ => h)⟩ | 5 => some ⟨(Unit), (()), (fun _ => .string (B ++ s)), (fun _ _ => True), (fun _ _ _ h _ => h)⟩ | 6 => some ⟨(Unit), (()), (fun _ => .string X), (fun _ _ => True), (fun _ _ _ h _ => h)⟩ | 7 => some ⟨(Unit), (()), (fun _ => .string (A ++ X)), (fun _ _ => True), (fun _ _ _ h _ => h)⟩ | 8 => some ⟨(Unit), (()), (fun _ => .string Y), (fun _ _ => True), (fun _ _ _ h _ => h)⟩ | _ => none) (by kernel_rfl) (by kernel_rfl) (by intro d0 v0 c0 a0 w0 h0; first | (cases d0 <;> exact h0) | exact hP _ _ _ _ _ h0) ?_
          rw [show List.range 9 = [0, 1, 2, 3, 4, 5, 6, 7, 8] from rfl]
          first
            | (refine ty_skip rfl rfl ?_; (try simp only [Act.put, List.setIfInBounds_toArray, List.set_cons_zero, List.set_cons_succ]))
            | (refine ty_pure rfl rfl rfl rfl ?_; apply Exists.intro; refine ⟨fun wq hq hk => ?_, ?_⟩
               · simp only [pureAt]; go_simp; (try simp only [↓IntWalk.iteOmega]); (try go_bits); (try simp only [pureUpon]); (first | done | exact ⟨rfl, rfl⟩ | exact ⟨trivial, rfl⟩ | rfl)
               (try simp only [Act.put, List.setIfInBounds_toArray, List.set_cons_zero, List.set_cons_succ]))
          refine ty_rel rfl rfl _ rfl rfl (fun wq hq hk => ?_) ?_
          · have hc5 := HCA.out wq (RO.below hq.out); simp only [relAt]; go_simp; (try simp only [relUpon]); exact .mk (Below.refl _ _) () rfl trivial
          rintro ⟨⟩
          (try simp only [Act.put, List.setIfInBounds_toArray, List.set_cons_zero, List.set_cons_succ])
          first
            | (refine ty_skip rfl rfl ?_; (try simp only [Act.put, List.setIfInBounds_toArray, List.set_cons_zero, List.set_cons_succ]))
            | (refine ty_pure rfl rfl rfl rfl ?_; apply Exists.intro; refine ⟨fun wq hq hk => ?_, ?_⟩
               · simp only [pureAt]; go_simp; (try simp only [↓IntWalk.iteOmega]); (try go_bits); (try simp only [pureUpon]); (first | done | exact ⟨rfl, rfl⟩ | exact ⟨trivial, rfl⟩ | rfl)
               (try simp only [Act.put, List.setIfInBounds_toArray, List.set_cons_zero, List.set_cons_succ]))
          refine ty_rel rfl rfl _ rfl rfl (fun wq hq hk => ?_) ?_
          · have hc5 := HCB.out wq (RI.below hq.out); simp only [relAt]; go_simp; (try simp only [relUpon]); exact .mk (Below.refl _ _) () rfl trivial
          rintro ⟨⟩
          (try simp only [Act.put, List.setIfInBounds_toArray, List.set_cons_zero, List.set_cons_succ])
          first
            | (refine ty_skip rfl rfl ?_; (try simp only [Act.put, List.setIfInBounds_toArray, List.set_cons_zero, List.set_cons_succ]))
            | (refine ty_pure rfl rfl rfl rfl ?_; apply Exists.intro; refine ⟨fun wq hq hk => ?_, ?_⟩
               · simp only [pureAt]; go_simp; (try simp only [↓IntWalk.iteOmega]); (try go_bits); (try simp only [pureUpon]); (first | done | exact ⟨rfl, rfl⟩ | exact ⟨trivial, rfl⟩ | rfl)
               (try simp only [Act.put, List.setIfInBounds_toArray, List.set_cons_zero, List.set_cons_succ]))
          refine ty_rel rfl rfl _ rfl rfl (fun wq hq hk => ?_) ?_
          · have ra5 := HADD1.out wq; simp only [relAt]; go_simp; (try simp only [relUpon]); exact .mk (Below.refl _ _) () rfl trivial
          rintro ⟨⟩
          (try simp only [Act.put, List.setIfInBounds_toArray, List.set_cons_zero, List.set_cons_succ])
          refine ty_rel rfl rfl _ rfl rfl (fun wq hq hk => ?_) ?_
          · simp only [relAt]; go_simp; (try simp only [relUpon]); (go_at_call 91; refine (HT1.out _).mono ?_; rintro e w9 ⟨rfl, hb9⟩; exact ⟨_, rfl, .mk hb9 () rfl trivial⟩)
          rintro ⟨⟩
          (try simp only [Act.put, List.setIfInBounds_toArray, List.set_cons_zero, List.set_cons_succ])
          refine ty_rel rfl rfl _ rfl rfl (fun wq hq hk => ?_) ?_
          · have ra5 := HADD2.out wq; simp only [relAt]; go_simp; (try simp only [relUpon]); exact .mk (Below.refl _ _) () rfl trivial
          rintro ⟨⟩
          (try simp only [Act.put, List.setIfInBounds_toArray, List.set_cons_zero, List.set_cons_succ])
          refine ty_rel rfl rfl _ rfl rfl (fun wq hq hk => ?_) ?_
          · simp only [relAt]; go_simp; (try simp only [relUpon]); (go_at_call 91; refine (HT2.out _).mono ?_; rintro e w9 ⟨rfl, hb9⟩; exact ⟨_, rfl, .mk hb9 () rfl trivial⟩)
          rintro ⟨⟩
          (try simp only [Act.put, List.setIfInBounds_toArray, List.set_cons_zero, List.set_cons_succ])
          refine ty_nil ?_
          simp only [List.drop_succ_cons, List.drop_zero]
          intro W8 hw8 hΓ
          have HB8 := Below.thn HB hw8.out HB.size
          clear hΓ hw8
          go_wp2_with fail
          go_ret
          exact ⟨rfl, HB8⟩
        | succ gk =>
          have hi' : (i : Int) < 64 := by omega
          have hil : i < 64 := by omega
          obtain ⟨x, hx⟩ : ∃ x, P.getD i 0 = x := ⟨_, rfl⟩
          have hpg := HPG.out i hil
          have ni := halfAt_next 54 P i hPl hil
          have no := halfAt_next 92 P i hPl hil
          have li := halfAt_len 54 P i hPl (by omega)
          have lo := halfAt_len 92 P i hPl (by omega)
          rw [hx] at ni no hpg
          have xi := sum_xor8 x 54
          have xo := sum_xor8 x 92
          rw [show (((54 : UInt8).toNat : Nat) : Int) = 54 from rfl] at xi
          rw [show (((92 : UInt8).toNat : Nat) : Int) = 92 from rfl] at xo
          obtain ⟨yi, hyi⟩ : ∃ y, x ^^^ 54 = y := ⟨_, rfl⟩
          obtain ⟨yo, hyo⟩ : ∃ y, x ^^^ 92 = y := ⟨_, rfl⟩
          rw [hyi] at xi ni; rw [hyo] at xo no
          have HNI := Lib.hid ni; have HNO := Lib.hid no; have HI := Lib.hid hi; have HLI := Lib.hid li; have HLO := Lib.hid lo
          clear ni no hi hx hyi hyo li lo
          by_cases hik : i < key.size
          · have hikI : (i : Int) < key.size := by omega
            rw [if_pos hik] at hpg
            have e1 : (((key[i]'hik).toNat : Nat) : Int) = ((x.toNat : Nat) : Int) := by
              rw [hpg, List.getD_eq_getElem?_getD, List.getElem?_eq_getElem (show i < key.data.toList.length from hik)]; rfl
            clear hpg
            have c1 : ∃ v, wr.cell? ⟨b1, i, none⟩ = some v := ⟨_, RI.cell i (by rw [HLI.out]; exact hil)⟩
            obtain ⟨v1, c1⟩ := c1
            have f1 := RI.frz i (by rw [HLI.out]; exact hil)
            have l1 := RI.lt
            have RI2 := RI.set (k := i) (by rw [HLI.out]; exact hil) yi
            rw [HNI.out] at RI2
            have RO2 := RO.set_ne (a := ⟨b1, i, none⟩) (by show b2 ≠ b1; omega) (bval yi)
            have HB2 := HB.setCell (p := ⟨b1, i, none⟩) (by show w.heap.size ≤ b1; omega) (bval yi)
            go_upto_region 11 with fail
            refine wp_absQ (fun W => BRow W b1 (halfAt 54 P (i + 1)) ∧ BRow W b2 (halfAt 92 P i) ∧ Below w.heap.size w W) ⟨RI2, RO2, HB2⟩ (fun W6 V6 => ?_)
            clear RI RO HB RI2 RO2 HB2 c1 f1 l1
            obtain ⟨RI, RO, HB⟩ := V6
            have c1 : ∃ v, W6.cell? ⟨b2, i, none⟩ = some v := ⟨_, RO.cell i (by rw [HLO.out]; exact hil)⟩
            obtain ⟨v2, c1⟩ := c1
            have f1 := RO.frz i (by rw [HLO.out]; exact hil)
            have l1 := RO.lt
            have RO2 := RO.set (k := i) (by rw [HLO.out]; exact hil) yo
            rw [HNO.out] at RO2
            have RI2 := RI.set_ne (a := ⟨b2, i, none⟩) (by show b1 ≠ b2; omega) (bval yo)
            have HB2 := HB.setCell (p := ⟨b2, i, none⟩) (by show w.heap.size ≤ b2; omega) (bval yo)
            go_upto_region 6 with fail
            refine wp_absQ (fun W => BRow W b1 (halfAt 54 P (i + 1)) ∧ BRow W b2 (halfAt 92 P (i + 1)) ∧ Below w.heap.size w W) ⟨RI2, RO2, HB2⟩ (fun W7 V7 => ?_)
            clear RI RO HB RI2 RO2 HB2 c1 f1 l1
            obtain ⟨RI, RO, HB⟩ := V7
            go_wp2_with fail
            go_roundg gk
            case rel => exact ⟨i + 1, by simp, by have := HI.out; omega, RI, RO, HB⟩
            case measure => omega
          · have hikI : ¬ (i : Int) < key.size := by omega
            rw [if_neg hik] at hpg
            subst hpg
            rw [show (((0 : UInt8).toNat : Nat) : Int) = 0 from rfl] at xi xo
            have c1 : ∃ v, wr.cell? ⟨b1, i, none⟩ = some v := ⟨_, RI.cell i (by rw [HLI.out]; exact hil)⟩
            obtain ⟨v1, c1⟩ := c1
            have f1 := RI.frz i (by rw [HLI.out]; exact hil)
            have l1 := RI.lt
            have RI2 := RI.set (k := i) (by rw [HLI.out]; exact hil) yi
            rw [HNI.out] at RI2
            have RO2 := RO.set_ne (a := ⟨b1, i, none⟩) (by show b2 ≠ b1; omega) (bval yi)
            have HB2 := HB.setCell (p := ⟨b1, i, none⟩) (by show w.heap.size ≤ b1; omega) (bval yi)
            go_upto_region 11 with fail
            refine wp_absQ (fun W => BRow W b1 (halfAt 54 P (i + 1)) ∧ BRow W b2 (halfAt 92 P i) ∧ Below w.heap.size w W) ⟨RI2, RO2, HB2⟩ (fun W6 V6 => ?_)
            clear RI RO HB RI2 RO2 HB2 c1 f1 l1
            obtain ⟨RI, RO, HB⟩ := V6
            have c1 : ∃ v, W6.cell? ⟨b2, i, none⟩ = some v := ⟨_, RO.cell i (by rw [HLO.out]; exact hil)⟩
            obtain ⟨v2, c1⟩ := c1
            have f1 := RO.frz i (by rw [HLO.out]; exact hil)
            have l1 := RO.lt
            have RO2 := RO.set (k := i) (by rw [HLO.out]; exact hil) yo
            rw [HNO.out] at RO2
            have RI2 := RI.set_ne (a := ⟨b2, i, none⟩) (by show b1 ≠ b2; omega) (bval yo)
            have HB2 := HB.setCell (p := ⟨b2, i, none⟩) (by show w.heap.size ≤ b2; omega) (bval yo)
            go_upto_region 6 with fail
            refine wp_absQ (fun W => BRow W b1 (halfAt 54 P (i + 1)) ∧ BRow W b2 (halfAt 92 P (i + 1)) ∧ Below w.heap.size w W) ⟨RI2, RO2, HB2⟩ (fun W7 V7 => ?_)
            clear RI RO HB RI2 RO2 HB2 c1 f1 l1
            obtain ⟨RI, RO, HB⟩ := V7
            go_wp2_with fail
            go_roundg gk
            case rel => exact ⟨i + 1, by simp, by have := HI.out; omega, RI, RO, HB⟩
            case measure => omega
    · obtain ⟨hI, hO, hB, hne⟩ := (show Blk WW b2 zero64 5 ∧ Blk WW b1 zero64 5 ∧ Below w.heap.size w WW ∧ b1 ≠ b2 from ⟨hm2, hm1, hmb, hn12⟩)
      have RI : BRow WW b2 (halfAt 54 P 0) := zero_row hI 54 P
      have RO : BRow WW b1 (halfAt 92 P 0) := zero_row hO 92 P
      clear hI hO
      go_wp2_with fail
      go_loopg [7] 64 (fun gk t7 wr => ∃ i : Nat, t7 = .int .i64 i ∧ i + gk = 64 ∧ BRow wr b2 (halfAt 54 P i) ∧ BRow wr b1 (halfAt 92 P i) ∧ Below w.heap.size w wr)
      case atStart => exact ⟨0, rfl, rfl, RI, RO, hB⟩
      case round =>
        clear RI RO hB
        obtain ⟨i, rfl, hi, RI, RO, HB⟩ := hrel
        cases gk with
        | zero =>
          have hi' : ¬ (i : Int) < 64 := by omega
          obtain rfl : i = 64 := by omega
          rw [halfAt_all 54 P hPl] at RI
          rw [halfAt_all 92 P hPl] at RO
          have hcA : ∀ W, BRow W b1 (xorL 92 P) → (convert 36 9 (.slice (some ⟨b1, 0, none⟩) 64 64)).run Try.prog W = .ok (.string A) W := fun W R => by
            have h5 := Lib.run_convert_whole (P := Try.prog) W 36 5 9 Try.underlying36 Try.underlying5 Try.underlying9 b1 0 ⟨(xorL 92 P).toArray⟩ (row_bytes R) 64
            have hz : (⟨(xorL 92 P).toArray⟩ : ByteArray) = A := ba_ext HAL.out.symm
            rw [hz, HAS.out] at h5
            exact h5
          have hcB : ∀ W, BRow W b2 (xorL 54 P) → (convert 36 9 (.slice (some ⟨b2, 0, none⟩) 64 64)).run Try.prog W = .ok (.string B) W := fun W R => by
            have h5 := Lib.run_convert_whole (P := Try.prog) W 36 5 9 Try.underlying36 Try.underlying5 Try.underlying9 b2 0 ⟨(xorL 54 P).toArray⟩ (row_bytes R) 64
            have hz : (⟨(xorL 54 P).toArray⟩ : ByteArray) = B := ba_ext HBL.out.symm
            rw [hz, HBS.out] at h5
            exact h5
          have HCA := Lib.hid hcA; have HCB := Lib.hid hcB
          clear hcA hcB hi
          go_wp2_with fail
          refine wp_region_typed 9 (fun k => match k with  | _ => []) (fun k => match k with  | _ => false) (fun k => match k with | 1 => some ⟨(Unit), (()), (fun _ => .string A), (fun _ _ => True), (fun _ _ _ h _ => h)⟩ | 3 => some ⟨(Unit), (()), (fun _ => .string B), (fun _ _ => True), (fun _ _ _ h _ => h)⟩ | 5 => some ⟨(Unit), (()), (fun _ => .string (B ++ s)), (fun _ _ => True), (fun _ _ _ h _ => h)⟩ | 6 => some ⟨(Unit), (()), (fun _ => .string X), (fun _ _ => True), (fun _ _ _ h _ => h)⟩ | 7 => some ⟨(Unit), (()), (fun _ => .string (A ++ X)), (fun _ _ => True), (fun _ _ _ h _ => h)⟩ | 8 => some ⟨(Unit), (()), (fun _ => .string Y), (fun _ _ => True), (fun _ _ _ h _ => h)⟩ | _ => none) (by kernel_rfl) (by kernel_rfl) (by intro d0 v0 c0 a0 w0 h0; first | (cases d0 <;> exact h0) | exact hP _ _ _ _ _ h0) ?_
          rw [show List.range 9 = [0, 1, 2, 3, 4, 5, 6, 7, 8] from rfl]
          first
            | (refine ty_skip rfl rfl ?_; (try simp only [Act.put, List.setIfInBounds_toArray, List.set_cons_zero, List.set_cons_succ]))
            | (refine ty_pure rfl rfl rfl rfl ?_; apply Exists.intro; refine ⟨fun wq hq hk => ?_, ?_⟩
               · simp only [pureAt]; go_simp; (try simp only [↓IntWalk.iteOmega]); (try go_bits); (try simp only [pureUpon]); (first | done | exact ⟨rfl, rfl⟩ | exact ⟨trivial, rfl⟩ | rfl)
               (try simp only [Act.put, List.setIfInBounds_toArray, List.set_cons_zero, List.set_cons_succ]))
          refine ty_rel rfl rfl _ rfl rfl (fun wq hq hk => ?_) ?_
          · have hc5 := HCA.out wq (RO.below hq.out); simp only [relAt]; go_simp; (try simp only [relUpon]); exact .mk (Below.refl _ _) () rfl trivial
          rintro ⟨⟩
          (try simp only [Act.put, List.setIfInBounds_toArray, List.set_cons_zero, List.set_cons_succ])
          first
            | (refine ty_skip rfl rfl ?_; (try simp only [Act.put, List.setIfInBounds_toArray, List.set_cons_zero, List.set_cons_succ]))
            | (refine ty_pure rfl rfl rfl rfl ?_; apply Exists.intro; refine ⟨fun wq hq hk => ?_, ?_⟩
               · simp only [pureAt]; go_simp; (try simp only [↓IntWalk.iteOmega]); (try go_bits); (try simp only [pureUpon]); (first | done | exact ⟨rfl, rfl⟩ | exact ⟨trivial, rfl⟩ | rfl)
               (try simp only [Act.put, List.setIfInBounds_toArray, List.set_cons_zero, List.set_cons_succ]))
          refine ty_rel rfl rfl _ rfl rfl (fun wq hq hk => ?_) ?_
          · have hc5 := HCB.out wq (RI.below hq.out); simp only [relAt]; go_simp; (try simp only [relUpon]); exact .mk (Below.refl _ _) () rfl trivial
          rintro ⟨⟩
          (try simp only [Act.put, List.setIfInBounds_toArray, List.set_cons_zero, List.set_cons_succ])
          first
            | (refine ty_skip rfl rfl ?_; (try simp only [Act.put, List.setIfInBounds_toArray, List.set_cons_zero, List.set_cons_succ]))
            | (refine ty_pure rfl rfl rfl rfl ?_; apply Exists.intro; refine ⟨fun wq hq hk => ?_, ?_⟩
               · simp only [pureAt]; go_simp; (try simp only [↓IntWalk.iteOmega]); (try go_bits); (try simp only [pureUpon]); (first | done | exact ⟨rfl, rfl⟩ | exact ⟨trivial, rfl⟩ | rfl)
               (try simp only [Act.put, List.setIfInBounds_toArray, List.set_cons_zero, List.set_cons_succ]))
          refine ty_rel rfl rfl _ rfl rfl (fun wq hq hk => ?_) ?_
          · have ra5 := HADD1.out wq; simp only [relAt]; go_simp; (try simp only [relUpon]); exact .mk (Below.refl _ _) () rfl trivial
          rintro ⟨⟩
          (try simp only [Act.put, List.setIfInBounds_toArray, List.set_cons_zero, List.set_cons_succ])
          refine ty_rel rfl rfl _ rfl rfl (fun wq hq hk => ?_) ?_
          · simp only [relAt]; go_simp; (try simp only [relUpon]); (go_at_call 91; refine (HT1.out _).mono ?_; rintro e w9 ⟨rfl, hb9⟩; exact ⟨_, rfl, .mk hb9 () rfl trivial⟩)
          rintro ⟨⟩
          (try simp only [Act.put, List.setIfInBounds_toArray, List.set_cons_zero, List.set_cons_succ])
          refine ty_rel rfl rfl _ rfl rfl (fun wq hq hk => ?_) ?_
          · have ra5 := HADD2.out wq; simp only [relAt]; go_simp; (try simp only [relUpon]); exact .mk (Below.refl _ _) () rfl trivial
          rintro ⟨⟩
          (try simp only [Act.put, List.setIfInBounds_toArray, List.set_cons_zero, List.set_cons_succ])
          refine ty_rel rfl rfl _ rfl rfl (fun wq hq hk => ?_) ?_
          · simp only [relAt]; go_simp; (try simp only [relUpon]); (go_at_call 91; refine (HT2.out _).mono ?_; rintro e w9 ⟨rfl, hb9⟩; exact ⟨_, rfl, .mk hb9 () rfl trivial⟩)
          rintro ⟨⟩
          (try simp only [Act.put, List.setIfInBounds_toArray, List.set_cons_zero, List.set_cons_succ])
          refine ty_nil ?_
          simp only [List.drop_succ_cons, List.drop_zero]
          intro W8 hw8 hΓ
          have HB8 := Below.thn HB hw8.out HB.size
          clear hΓ hw8
          go_wp2_with fail
          go_ret
          exact ⟨rfl, HB8⟩
        | succ gk =>
          have hi' : (i : Int) < 64 := by omega
          have hil : i < 64 := by omega
          obtain ⟨x, hx⟩ : ∃ x, P.getD i 0 = x := ⟨_, rfl⟩
          have hpg := HPG.out i hil
          have ni := halfAt_next 54 P i hPl hil
          have no := halfAt_next 92 P i hPl hil
          have li := halfAt_len 54 P i hPl (by omega)
          have lo := halfAt_len 92 P i hPl (by omega)
          rw [hx] at ni no hpg
          have xi := sum_xor8 x 54
          have xo := sum_xor8 x 92
          rw [show (((54 : UInt8).toNat : Nat) : Int) = 54 from rfl] at xi
          rw [show (((92 : UInt8).toNat : Nat) : Int) = 92 from rfl] at xo
          obtain ⟨yi, hyi⟩ : ∃ y, x ^^^ 54 = y := ⟨_, rfl⟩
          obtain ⟨yo, hyo⟩ : ∃ y, x ^^^ 92 = y := ⟨_, rfl⟩
          rw [hyi] at xi ni; rw [hyo] at xo no
          have HNI := Lib.hid ni; have HNO := Lib.hid no; have HI := Lib.hid hi; have HLI := Lib.hid li; have HLO := Lib.hid lo
          clear ni no hi hx hyi hyo li lo
          by_cases hik : i < key.size
          · have hikI : (i : Int) < key.size := by omega
            rw [if_pos hik] at hpg
            have e1 : (((key[i]'hik).toNat : Nat) : Int) = ((x.toNat : Nat) : Int) := by
              rw [hpg, List.getD_eq_getElem?_getD, List.getElem?_eq_getElem (show i < key.data.toList.length from hik)]; rfl
            clear hpg
            have c1 : ∃ v, wr.cell? ⟨b2, i, none⟩ = some v := ⟨_, RI.cell i (by rw [HLI.out]; exact hil)⟩
            obtain ⟨v1, c1⟩ := c1
            have f1 := RI.frz i (by rw [HLI.out]; exact hil)
            have l1 := RI.lt
            have RI2 := RI.set (k := i) (by rw [HLI.out]; exact hil) yi
            rw [HNI.out] at RI2
            have RO2 := RO.set_ne (a := ⟨b2, i, none⟩) (by show b1 ≠ b2; omega) (bval yi)
            have HB2 := HB.setCell (p := ⟨b2, i, none⟩) (by show w.heap.size ≤ b2; omega) (bval yi)
            go_upto_region 11 with fail
            refine wp_absQ (fun W => BRow W b2 (halfAt 54 P (i + 1)) ∧ BRow W b1 (halfAt 92 P i) ∧ Below w.heap.size w W) ⟨RI2, RO2, HB2⟩ (fun W6 V6 => ?_)
            clear RI RO HB RI2 RO2 HB2 c1 f1 l1
            obtain ⟨RI, RO, HB⟩ := V6
            have c1 : ∃ v, W6.cell? ⟨b1, i, none⟩ = some v := ⟨_, RO.cell i (by rw [HLO.out]; exact hil)⟩
            obtain ⟨v2, c1⟩ := c1
            have f1 := RO.frz i (by rw [HLO.out]; exact hil)
            have l1 := RO.lt
            have RO2 := RO.set (k := i) (by rw [HLO.out]; exact hil) yo
            rw [HNO.out] at RO2
            have RI2 := RI.set_ne (a := ⟨b1, i, none⟩) (by show b2 ≠ b1; omega) (bval yo)
            have HB2 := HB.setCell (p := ⟨b1, i, none⟩) (by show w.heap.size ≤ b1; omega) (bval yo)
            go_upto_region 6 with fail
            refine wp_absQ (fun W => BRow W b2 (halfAt 54 P (i + 1)) ∧ BRow W b1 (halfAt 92 P (i + 1)) ∧ Below w.heap.size w W) ⟨RI2, RO2, HB2⟩ (fun W7 V7 => ?_)
            clear RI RO HB RI2 RO2 HB2 c1 f1 l1
            obtain ⟨RI, RO, HB⟩ := V7
            go_wp2_with fail
            go_roundg gk
            case rel => exact ⟨i + 1, by simp, by have := HI.out; omega, RI, RO, HB⟩
            case measure => omega
          · have hikI : ¬ (i : Int) < key.size := by omega
            rw [if_neg hik] at hpg
            subst hpg
            rw [show (((0 : UInt8).toNat : Nat) : Int) = 0 from rfl] at xi xo
            have c1 : ∃ v, wr.cell? ⟨b2, i, none⟩ = some v := ⟨_, RI.cell i (by rw [HLI.out]; exact hil)⟩
            obtain ⟨v1, c1⟩ := c1
            have f1 := RI.frz i (by rw [HLI.out]; exact hil)
            have l1 := RI.lt
            have RI2 := RI.set (k := i) (by rw [HLI.out]; exact hil) yi
            rw [HNI.out] at RI2
            have RO2 := RO.set_ne (a := ⟨b2, i, none⟩) (by show b1 ≠ b2; omega) (bval yi)
            have HB2 := HB.setCell (p := ⟨b2, i, none⟩) (by show w.heap.size ≤ b2; omega) (bval yi)
            go_upto_region 11 with fail
            refine wp_absQ (fun W => BRow W b2 (halfAt 54 P (i + 1)) ∧ BRow W b1 (halfAt 92 P i) ∧ Below w.heap.size w W) ⟨RI2, RO2, HB2⟩ (fun W6 V6 => ?_)
            clear RI RO HB RI2 RO2 HB2 c1 f1 l1
            obtain ⟨RI, RO, HB⟩ := V6
            have c1 : ∃ v, W6.cell? ⟨b1, i, none⟩ = some v := ⟨_, RO.cell i (by rw [HLO.out]; exact hil)⟩
            obtain ⟨v2, c1⟩ := c1
            have f1 := RO.frz i (by rw [HLO.out]; exact hil)
            have l1 := RO.lt
            have RO2 := RO.set (k := i) (by rw [HLO.out]; exact hil) yo
            rw [HNO.out] at RO2
            have RI2 := RI.set_ne (a := ⟨b1, i, none⟩) (by show b2 ≠ b1; omega) (bval yo)
            have HB2 := HB.setCell (p := ⟨b1, i, none⟩) (by show w.heap.size ≤ b1; omega) (bval yo)
            go_upto_region 6 with fail
            refine wp_absQ (fun W => BRow W b2 (halfAt 54 P (i + 1)) ∧ BRow W b1 (halfAt 92 P (i + 1)) ∧ Below w.heap.size w W) ⟨RI2, RO2, HB2⟩ (fun W7 V7 => ?_)
            clear RI RO HB RI2 RO2 HB2 c1 f1 l1
            obtain ⟨RI, RO, HB⟩ := V7
            go_wp2_with fail
            go_roundg gk
            case rel => exact ⟨i + 1, by simp, by have := HI.out; omega, RI, RO, HB⟩
            case measure => omega
end Go.Proofs.Ytkblkdojmfgneaa

namespace Go.Proofs.Ytkblkdojmfgneaa
open Go.RowKit

set_option maxHeartbeats 4000000 in
set_option maxRecDepth 20000 in
theorem rderive_any (key label : ByteArray) (n : Nat) (w : World) (hk : key.size ≤ 4000) (hl : label.size ≤ 4000) (hn : n ≤ 4000) :
    Calls Try.prog 72 #[.string key, .string label, .int .i64 n] w fun e w' => e = .returned (.string (derB key label n)) ∧ Below w.heap.size w w' := by
  obtain ⟨N, hN⟩ : ∃ N, (n + 31) / 32 = N := ⟨_, rfl⟩
  have hcut : (allB key label N).extract 0 n = derB key label n := by rw [← hN]; rfl
  have HCUT := Lib.hid hcut; have HN := Lib.hid hN
  clear hcut hN
  go_enter Try.func72, Try.ntmps72
  go_wp2_with fail
  go_loopg [7, 8, 9] N (fun gk t7 t8 t9 wr => ∃ k : Nat, k + gk = N ∧ t7 = .string (allB key label k) ∧ t8 = .string (lastB key label k) ∧ t9 = .int .i64 ((k + 1 : Nat) : Int) ∧ Below w.heap.size w wr)
  case atStart => exact ⟨0, by omega, rfl, rfl, rfl, Below.refl _ _⟩
  case round =>
    obtain ⟨k, hkg, rfl, rfl, rfl, HB⟩ := hrel
    have has := allB_size key label k
    have hls := lastB_size key label k
    have HBs := HB.size
    have hn2 := HN.out
    have hkb : k ≤ 126 := by omega
    obtain ⟨A, hA⟩ : ∃ A, allB key label k = A := ⟨_, rfl⟩
    obtain ⟨L, hL⟩ : ∃ A, lastB key label k = A := ⟨_, rfl⟩
    rw [hA, hL]
    rw [hA] at has; rw [hL] at hls
    cases gk with
    | zero =>
      obtain rfl : k = N := by omega
      have hlt : ¬ (A.size : Int) < n := by omega
      have hle : (n : Int) ≤ A.size := by omega
      have hc := HCUT.out
      rw [hA] at hc
      clear hkg has hls hn2 hA hL HN HCUT
      go_wp2_with fail
      go_ret
      exact ⟨rfl, HB⟩
    | succ gk =>
      have hlt : (A.size : Int) < n := by omega
      obtain ⟨i, hi⟩ : ∃ i, k + 1 = i := ⟨_, rfl⟩
      rw [hi]
      have hi2 : i ≤ 127 := by omega
      have himod : (i : Int) % 256 = (i : Int) := by omega
      obtain ⟨c, hc⟩ : ∃ c : ByteArray, (⟨#[UInt8.ofNat i]⟩ : ByteArray) = c := ⟨_, rfl⟩
      have hcs : c.size = 1 := by rw [← hc]; rfl
      have hcast := fun b W B => cast_byte b i W B (by omega)
      rw [hc] at hcast
      have hh := fun W => rhsum_any key (L ++ label ++ c) W (by omega) (by rw [ByteArray.size_append, ByteArray.size_append]; omega)
      have hlast : hmacB key (L ++ label ++ c) = lastB key label i := by rw [← hi, lastB, ← hc, ← hi, hL]
      have hx32 : (lastB key label i).size = 32 := by rw [← hi, lastB]; exact hmacB_size _ _
      have hall : A ++ lastB key label i = allB key label i := by rw [← hi, allB, hA]
      rw [hlast] at hh
      obtain ⟨X, hX⟩ : ∃ X, lastB key label i = X := ⟨_, rfl⟩
      rw [hX] at hh hx32 hall
      have hadd : ∀ W, (Op.stringOp .add A X).run Try.prog W = .ok (.string (A ++ X)) W := fun W => run_string_add_sum W _ _ (by omega)
      have hadd1 : ∀ W, (Op.stringOp .add L label).run Try.prog W = .ok (.string (L ++ label)) W := fun W => run_string_add_sum W _ _ (by omega)
      have hadd2 : ∀ W, (Op.stringOp .add (L ++ label) c).run Try.prog W = .ok (.string (L ++ label ++ c)) W := fun W => run_string_add_sum W _ _ (by rw [ByteArray.size_append]; omega)
      have HH := Lib.hid hh; have HALL := Lib.hid hall; have HI := Lib.hid hi; have HX := Lib.hid hX; have HK := Lib.hid hkg
      have hcv := hcast wr.heap.size (wr.alloc (.cells #[.int .u8 ((i : Nat) : Int)] 5)) (Blk.new' rfl)
      clear hcast hh hlast hall hi hX hA hL hc hcs has hls hn2 hkg
      go_wp2_with fail
      refine (HH.out _).mono ?_
      rintro e W2 ⟨rfl, hb2⟩
      have HB2 : Below w.heap.size w W2 := Below.thn (by (repeat (first | (with_reducible assumption) | (with_reducible exact Below.refl _ _) | with_reducible apply bl_drewN | with_reducible apply Below.drew | (with_reducible apply bl_alloc; focus (first | (simp; done) | (simp; omega) | omega)) | (with_reducible apply bl_set; focus (first | (simp; done) | (simp; omega) | omega))))) hb2 (by simp; omega)
      clear hb2 hcv
      go_wp2_with fail
      go_roundg gk
      case rel => exact ⟨i, by have := HI.out; have := HK.out; omega, by rw [HALL.out], by rw [HX.out], by have := HI.out; first | (simp; done) | (simp; omega), HB2⟩
      case measure => omega
set_option maxHeartbeats 4000000 in
set_option maxRecDepth 20000 in
theorem awake03x_any (w : World) : Calls Try.prog 95 #[] w fun e w' => e = .returned (.bool true) ∧ Below w.heap.size w w' := by
  go_enter Try.func95, Try.ntmps95
  go_wp2_with fail
  refine (awake03_any w).mono ?_
  rintro e W1 ⟨rfl, hb⟩
  go_wp2_with fail
  go_ret
  exact ⟨rfl, hb⟩
set_option maxHeartbeats 4000000 in
set_option maxRecDepth 20000 in
theorem awake04_any (w : World) : Calls Try.prog 89 #[] w fun e w' => e = .returned (.bool true) ∧ Below w.heap.size w w' := by
  have hpre := jefe
  have hh := fun b W t B => hsum_row b ⟨#[74, 101, 102, 101]⟩ [⟨#[119, 104, 97, 116, 32, 100, 111, 32, 121, 97, 32, 119, 97, 110, 116, 32]⟩, ⟨#[102, 111, 114, 32, 110, 111, 116, 104, 105, 110, 103, 63]⟩] ⟨#[119, 104, 97, 116, 32, 100, 111, 32, 121, 97, 32, 119, 97, 110, 116, 32, 102, 111, 114, 32, 110, 111, 116, 104, 105, 110, 103, 63]⟩ W t B (by rfl) (by decide) (by decide) (by decide)
  obtain ⟨X, hX⟩ : ∃ X, hmacB ⟨#[74, 101, 102, 101]⟩ ⟨#[119, 104, 97, 116, 32, 100, 111, 32, 121, 97, 32, 119, 97, 110, 116, 32, 102, 111, 114, 32, 110, 111, 116, 104, 105, 110, 103, 63]⟩ = X := ⟨_, rfl⟩
  rw [hX] at hpre hh
  have HH := Lib.hid hh; have HP := Lib.hid hpre
  clear hh hpre hX
  go_enter Try.func89, Try.ntmps89
  go_wp2_with fail
  refine (awake03x_any w).mono ?_
  rintro e W1 ⟨rfl, hb⟩
  have hbs := hb.size
  go_wp2_with fail
  refine (HH.out W1.heap.size _ 9 ((Blk.new' rfl).conv rfl)).mono ?_
  rintro e W2 ⟨rfl, hb2⟩
  have HB2 : Below w.heap.size w W2 := Below.thn (by (repeat (first | (with_reducible assumption) | (with_reducible exact Below.refl _ _) | with_reducible apply bl_drewN | with_reducible apply Below.drew | (with_reducible apply bl_alloc; focus (first | (simp; done) | (simp; omega) | omega)) | (with_reducible apply bl_set; focus (first | (simp; done) | (simp; omega) | omega))))) hb2
  clear hb2
  go_wp2_with fail
  refine (Try.strings_HasPrefix X ⟨#[91, 220, 193, 70]⟩ _).mono ?_
  rintro e W3 ⟨rfl, rfl⟩
  rw [show (⟨#[91, 220, 193, 70]⟩ : ByteArray).data.toList = [91, 220, 193, 70] from rfl, HP.out]
  go_wp2_with fail
  go_ret
  exact ⟨rfl, HB2⟩
end Go.Proofs.Ytkblkdojmfgneaa
