/- CtrBlocks, CtrParts, CtrLonger: the walks. -/
import Derived.Test.YtkblkdojmfgneaaCtrA
namespace Go.Proofs.Ytkblkdojmfgneaa
open Go.RowKit

/-- A block of bytes is a row. -/
theorem blk_row {w : World} {b : Nat} {X : List UInt8} {t : TypeId} (h : Blk w b (bcells X) t) : BRow w b X :=
  ⟨h.lt, fun i hi => (h.cell i).trans (bcells_get X i hi), fun i _ => h.frozen i⟩
theorem ba_drop (st : List UInt8) (p n : Nat) (h : st.length = n) : (⟨st.toArray⟩ : ByteArray).extract p n = ⟨(st.drop p).toArray⟩ := by
  refine ba_ext ?_
  rw [ba_extract, List.take_of_length_le (by simp [h])]
set_option maxHeartbeats 8000000 in
set_option maxRecDepth 20000 in
theorem blocks_walk (key : ByteArray) (nonce i : Nat) (hnon : nonce ≤ 18446744073709551615) (hi : i ≤ 255) (w : World) :
    Calls Try.prog 5 #[.string key, .int .u64 (nonce : Int), .int .u8 (i : Int)] w fun e w' => e = .returned (.bool true) ∧ Below w.heap.size w w' := by
  obtain ⟨KL, hkl⟩ : ∃ k, key.data.toList = k := ⟨_, rfl⟩
  by_cases hk : key.size = 16
  · have hKL : KL.length = 16 := by rw [← hkl]; exact hk
    have hone := kcells_one (keysN KL 10)
    have hKs := keysN_size KL hKL
    have hnw := fun W => new_any key W hk
    rw [hkl] at hnw
    have hst := fun (m : Nat) (hm : m ≤ 65536) W => stream_any KL nonce m hKL hnon hm W
    have htu := fun (s : ByteArray) (hs : s.size ≤ 100000) W => cturn_any KL nonce s hKL hnon hs W
    have hen := fun (l : List UInt8) (hl : l.length = 16) W => encrypt_any KL l hKL hl W
    obtain ⟨K, hK⟩ : ∃ K, (kcells (keysN KL 10)).toArray = K := ⟨_, rfl⟩
    rw [hK] at hnw hst htu hen hone hKs
    have HNW := Lib.hid hnw; have HST := Lib.hid hst; have HTU := Lib.hid htu; have HEN := Lib.hid hen
    clear hnw hst htu hen hK
    obtain ⟨n, hn⟩ : ∃ n, i + 1 = n := ⟨_, rfl⟩
    obtain ⟨m, hm⟩ : ∃ m, 16 * n = m := ⟨_, rfl⟩
    obtain ⟨p, hp⟩ : ∃ p, 16 * i = p := ⟨_, rfl⟩
    have i1 : (i : Int) + 1 = (n : Int) := by omega
    have i2 : (16 : Int) * (n : Int) = (m : Int) := by omega
    have i3 : (m : Int) - 16 = (p : Int) := by omega
    have i4 : (p : Int) ≤ (m : Int) := by omega
    have hpm : p ≤ m := by omega
    have hm6 : m ≤ 65536 := by omega
    have hin : i ≤ 18446744073709551615 := by omega
    have hsl := streamL_len KL nonce m hKL
    have hat : (streamL KL nonce m).drop p = strB KL nonce i := by rw [← hm, ← hn, ← hp]; exact streamL_at KL nonce i hKL
    obtain ⟨st, hstv⟩ : ∃ s, streamL KL nonce m = s := ⟨_, rfl⟩
    have hs3 := HST.out m hm6
    rw [hstv] at hs3 hsl hat
    have hxl := strB_len KL nonce i hKL
    have hen2 := HEN.out (ctrB nonce i) (ctrB_len nonce i)
    obtain ⟨X, hX⟩ : ∃ s, strB KL nonce i = s := ⟨_, rfl⟩
    rw [hX] at hat hxl
    rw [show encL KL (ctrB nonce i) = X from hX] at hen2
    have hbd := ba_drop st p m hsl
    rw [hat] at hbd
    obtain ⟨SB, hSB⟩ : ∃ s : ByteArray, (⟨st.toArray⟩ : ByteArray) = s := ⟨_, rfl⟩
    obtain ⟨XB, hXB⟩ : ∃ s : ByteArray, (⟨X.toArray⟩ : ByteArray) = s := ⟨_, rfl⟩
    have hSs : SB.size = m := by rw [← hSB, ba_size]; simpa using hsl
    rw [hSB, hXB] at hbd
    rw [hSB] at hs3
    have hxs := bcells_len X hxl
    have HS3 := Lib.hid hs3; have HEN2 := Lib.hid hen2; have HXB := Lib.hid hXB
    clear hn hm hp hstv hs3 hX hen2 hat hsl hSB hXB hkl
    go_enter Try.func5, Try.ntmps5
    go_wp2_with fail
    refine (awake06_any _).mono ?_
    rintro e W1 ⟨rfl, HB1⟩
    have hs1 := HB1.size
    go_wp2_with fail
    refine (HNW.out _).mono ?_
    rintro e W2 ⟨rfl, hb⟩
    have HB2 := Below.thn HB1 hb hs1
    have hs2 := HB2.size
    clear hb HB1 hs1
    go_upto_region 6 with (refine wpList_put rfl 29 _ _ rfl W2.heap.size _ _ 29 rfl rfl (Blk.new _ _ _) (by rw [hKs]; kernel_rfl) (hKs.trans zkey_size.symm) hone (fun W3 hp3 K3 => ?_))
    (try simp only [Act.put])
    obtain ⟨b, hb⟩ : ∃ b, W2.heap.size = b := ⟨_, rfl⟩
    have HB3 : Below w.heap.size w W3 := hp3.below (by omega) (by (repeat (first | (with_reducible assumption) | (with_reducible exact Below.refl _ _) | with_reducible apply bl_drewN | with_reducible apply Below.drew | (with_reducible apply bl_alloc; focus (first | (simp; done) | (simp; omega) | omega)) | (with_reducible apply bl_set; focus (first | (simp; done) | (simp; omega) | omega)))))
    rw [hb] at K3 hs2 ⊢
    clear hp3 hb HB2
    go_wp2_with (refine wpList_load_row rfl 29 _ rfl b rfl 29 _ (0, 0) _ K3.out Try.underlying29 rfl (by rw [hKs]; kernel_rfl) ?_)
    refine (HS3.out _).mono ?_
    rintro e W4 ⟨rfl, hb⟩
    have HB4 := Below.thn HB3 hb HB3.size
    have K4 := K3.below hb
    clear hb HB3 K3
    go_wp2_with fail
    refine wp_region_typed 7 (fun k => match k with  | _ => []) (fun k => match k with  | _ => false) (fun k => match k with | 0 => some ⟨(Unit), (()), (fun _ => .agg K), (fun _ _ => True), (fun _ _ _ h _ => h)⟩ | 4 => some ⟨(Unit), (()), (fun _ => .agg (bcells (ctrB nonce i))), (fun _ _ => True), (fun _ _ _ h _ => h)⟩ | 5 => some ⟨(Unit), (()), (fun _ => .agg (bcells X)), (fun _ _ => True), (fun _ _ _ h _ => h)⟩ | 6 => some ⟨(Nat), (0), (fun b => .pointer (some ⟨b, 0, none⟩)), (fun b w => W4.heap.size ≤ b ∧ Blk w b z16 25), (fun b w w' h hb => ⟨h.1, h.2.below hb⟩)⟩ | _ => none) (by kernel_rfl) (by kernel_rfl) (by intro d0 v0 c0 a0 w0 h0; first | (cases d0 <;> exact h0) | exact hP _ _ _ _ _ h0) ?_
    rw [show List.range 7 = [0, 1, 2, 3, 4, 5, 6] from rfl]
    refine ty_rel rfl rfl _ rfl rfl (fun wq hq hk => ?_) ?_
    · exact rel_load_blk _ _ rfl b rfl K _ (K4.gr hq) _ Try.underlying29 rfl (by rw [hKs]; kernel_rfl) (.mk (Below.refl _ _) () rfl trivial)
    rintro ⟨⟩
    (try simp only [Act.put, List.setIfInBounds_toArray, List.set_cons_zero, List.set_cons_succ])
    first
      | (refine ty_skip rfl rfl ?_; (try simp only [Act.put, List.setIfInBounds_toArray, List.set_cons_zero, List.set_cons_succ]))
      | (refine ty_pure rfl rfl rfl rfl ?_; apply Exists.intro; refine ⟨fun wq hq hk => ?_, ?_⟩
         · simp only [pureAt]; go_simp; (try simp only [↓IntWalk.iteOmega]); (try go_bits); (try simp only [pureUpon]); (first | done | exact ⟨rfl, rfl⟩ | exact ⟨trivial, rfl⟩ | rfl)
         (try simp only [Act.put, List.setIfInBounds_toArray, List.set_cons_zero, List.set_cons_succ]))
    first
      | (refine ty_skip rfl rfl ?_; (try simp only [Act.put, List.setIfInBounds_toArray, List.set_cons_zero, List.set_cons_succ]))
      | (refine ty_pure rfl rfl rfl rfl ?_; apply Exists.intro; refine ⟨fun wq hq hk => ?_, ?_⟩
         · simp only [pureAt]; go_simp; (try simp only [↓IntWalk.iteOmega]); (try go_bits); (try simp only [pureUpon]); (first | done | exact ⟨rfl, rfl⟩ | exact ⟨trivial, rfl⟩ | rfl)
         (try simp only [Act.put, List.setIfInBounds_toArray, List.set_cons_zero, List.set_cons_succ]))
    first
      | (refine ty_skip rfl rfl ?_; (try simp only [Act.put, List.setIfInBounds_toArray, List.set_cons_zero, List.set_cons_succ]))
      | (refine ty_pure rfl rfl rfl rfl ?_; apply Exists.intro; refine ⟨fun wq hq hk => ?_, ?_⟩
         · simp only [pureAt]; go_simp; (try simp only [↓IntWalk.iteOmega]); (try go_bits); (try simp only [pureUpon]); (first | done | exact ⟨rfl, rfl⟩ | exact ⟨trivial, rfl⟩ | rfl)
         (try simp only [Act.put, List.setIfInBounds_toArray, List.set_cons_zero, List.set_cons_succ]))
    refine ty_rel rfl rfl _ rfl rfl (fun wq hq hk => ?_) ?_
    · simp only [relAt]; go_simp; (try simp only [relUpon]); (go_at_call 16; refine (block_any nonce i hnon hin _).mono ?_; rintro e w9 ⟨rfl, hb9⟩; exact ⟨_, rfl, .mk hb9 () rfl trivial⟩)
    rintro ⟨⟩
    (try simp only [Act.put, List.setIfInBounds_toArray, List.set_cons_zero, List.set_cons_succ])
    refine ty_rel rfl rfl _ rfl rfl (fun wq hq hk => ?_) ?_
    · simp only [relAt]; go_simp; (try simp only [relUpon]); (go_at_call 23; refine (HEN2.out _).mono ?_; rintro e w9 ⟨rfl, hb9⟩; exact ⟨_, rfl, .mk hb9 () rfl trivial⟩)
    rintro ⟨⟩
    (try simp only [Act.put, List.setIfInBounds_toArray, List.set_cons_zero, List.set_cons_succ])
    refine ty_rel rfl rfl _ rfl rfl (fun wq hq hk => ?_) ?_
    · simp only [relAt]; go_simp; (try simp only [relUpon]); exact .mk ((Below.refl _ _).alloc (Nat.le_refl _) _) wq.heap.size rfl ⟨hq.size, Blk.new wq _ _⟩
    rintro (xb : Nat)
    (try simp only [Act.put, List.setIfInBounds_toArray, List.set_cons_zero, List.set_cons_succ])
    refine ty_nil ?_
    simp only [List.drop_succ_cons, List.drop_zero]
    intro W5 hw5 hΓ
    obtain ⟨hxb, X5⟩ := hΓ _ (.head _)
    have hs4 := HB4.size
    have HB5 := Below.thn HB4 hw5.out hs4
    clear hΓ hw5 HB4 K4
    go_upto_region 9 with (refine wpList_put rfl 25 _ _ rfl xb _ (bcells X) 25 rfl rfl X5 (by rw [hxs]; kernel_rfl) (hxs.trans rfl) (bcells_one X) (fun W6 hp6 X6 => ?_))
    (try simp only [Act.put])
    have HB6 := hp6.below (by omega) HB5
    clear hp6 X5 HB5
    have hcv : ∀ W, Blk W xb (bcells X) 25 → (convert 36 9 (.slice (some ⟨xb, 0, none⟩) 16 16)).run Try.prog W = .ok (.string XB) W := fun W BX => by
      have h5 := Lib.run_convert_whole (P := Try.prog) W 36 5 9 Try.underlying36 Try.underlying5 Try.underlying9 xb 0 ⟨X.toArray⟩ (row_bytes (blk_row BX)) 16
      rw [show (⟨X.toArray⟩ : ByteArray).size = 16 by rw [ba_size]; simpa using hxl, HXB.out] at h5
      exact h5
    have HCV := Lib.hid hcv
    clear hcv
    refine wp_region_typed 12 (fun k => match k with  | _ => []) (fun k => match k with  | _ => false) (fun k => match k with | 9 => some ⟨(Unit), (()), (fun _ => .string XB), (fun _ _ => True), (fun _ _ _ h _ => h)⟩ | _ => none) (by kernel_rfl) (by kernel_rfl) (by intro d0 v0 c0 a0 w0 h0; first | (cases d0 <;> exact h0) | exact hP _ _ _ _ _ h0) ?_
    rw [show List.range 12 = [0, 1, 2, 3, 4, 5, 6, 7, 8, 9, 10, 11] from rfl]
    first
      | (refine ty_skip rfl rfl ?_; (try simp only [Act.put, List.setIfInBounds_toArray, List.set_cons_zero, List.set_cons_succ]))
      | (refine ty_pure rfl rfl rfl rfl ?_; apply Exists.intro; refine ⟨fun wq hq hk => ?_, ?_⟩
         · simp only [pureAt]; go_simp; (try simp only [↓IntWalk.iteOmega]); (try go_bits); (try simp only [pureUpon]); (first | done | exact ⟨rfl, rfl⟩ | exact ⟨trivial, rfl⟩ | rfl)
         (try simp only [Act.put, List.setIfInBounds_toArray, List.set_cons_zero, List.set_cons_succ]))
    first
      | (refine ty_skip rfl rfl ?_; (try simp only [Act.put, List.setIfInBounds_toArray, List.set_cons_zero, List.set_cons_succ]))
      | (refine ty_pure rfl rfl rfl rfl ?_; apply Exists.intro; refine ⟨fun wq hq hk => ?_, ?_⟩
         · simp only [pureAt]; go_simp; (try simp only [↓IntWalk.iteOmega]); (try go_bits); (try simp only [pureUpon]); (first | done | exact ⟨rfl, rfl⟩ | exact ⟨trivial, rfl⟩ | rfl)
         (try simp only [Act.put, List.setIfInBounds_toArray, List.set_cons_zero, List.set_cons_succ]))
    first
      | (refine ty_skip rfl rfl ?_; (try simp only [Act.put, List.setIfInBounds_toArray, List.set_cons_zero, List.set_cons_succ]))
      | (refine ty_pure rfl rfl rfl rfl ?_; apply Exists.intro; refine ⟨fun wq hq hk => ?_, ?_⟩
         · simp only [pureAt]; go_simp; (try simp only [↓IntWalk.iteOmega]); (try go_bits); (try simp only [pureUpon]); (first | done | exact ⟨rfl, rfl⟩ | exact ⟨trivial, rfl⟩ | rfl)
         (try simp only [Act.put, List.setIfInBounds_toArray, List.set_cons_zero, List.set_cons_succ]))
    first
      | (refine ty_skip rfl rfl ?_; (try simp only [Act.put, List.setIfInBounds_toArray, List.set_cons_zero, List.set_cons_succ]))
      | (refine ty_pure rfl rfl rfl rfl ?_; apply Exists.intro; refine ⟨fun wq hq hk => ?_, ?_⟩
         · simp only [pureAt]; go_simp; (try simp only [↓IntWalk.iteOmega]); (try go_bits); (try simp only [pureUpon]); (first | done | exact ⟨rfl, rfl⟩ | exact ⟨trivial, rfl⟩ | rfl)
         (try simp only [Act.put, List.setIfInBounds_toArray, List.set_cons_zero, List.set_cons_succ]))
    first
      | (refine ty_skip rfl rfl ?_; (try simp only [Act.put, List.setIfInBounds_toArray, List.set_cons_zero, List.set_cons_succ]))
      | (refine ty_pure rfl rfl rfl rfl ?_; apply Exists.intro; refine ⟨fun wq hq hk => ?_, ?_⟩
         · simp only [pureAt]; go_simp; (try simp only [↓IntWalk.iteOmega]); (try go_bits); (try simp only [pureUpon]); (first | done | exact ⟨rfl, rfl⟩ | exact ⟨trivial, rfl⟩ | rfl)
         (try simp only [Act.put, List.setIfInBounds_toArray, List.set_cons_zero, List.set_cons_succ]))
    first
      | (refine ty_skip rfl rfl ?_; (try simp only [Act.put, List.setIfInBounds_toArray, List.set_cons_zero, List.set_cons_succ]))
      | (refine ty_pure rfl rfl rfl rfl ?_; apply Exists.intro; refine ⟨fun wq hq hk => ?_, ?_⟩
         · simp only [pureAt]; go_simp; (try simp only [↓IntWalk.iteOmega]); (try go_bits); (try simp only [pureUpon]); (first | done | exact ⟨rfl, rfl⟩ | exact ⟨trivial, rfl⟩ | rfl)
         (try simp only [Act.put, List.setIfInBounds_toArray, List.set_cons_zero, List.set_cons_succ]))
    first
      | (refine ty_skip rfl rfl ?_; (try simp only [Act.put, List.setIfInBounds_toArray, List.set_cons_zero, List.set_cons_succ]))
      | (refine ty_pure rfl rfl rfl rfl ?_; apply Exists.intro; refine ⟨fun wq hq hk => ?_, ?_⟩
         · simp only [pureAt]; go_simp; (try simp only [↓IntWalk.iteOmega]); (try go_bits); (try simp only [pureUpon]); (first | done | exact ⟨rfl, rfl⟩ | exact ⟨trivial, rfl⟩ | rfl)
         (try simp only [Act.put, List.setIfInBounds_toArray, List.set_cons_zero, List.set_cons_succ]))
    first
      | (refine ty_skip rfl rfl ?_; (try simp only [Act.put, List.setIfInBounds_toArray, List.set_cons_zero, List.set_cons_succ]))
      | (refine ty_pure rfl rfl rfl rfl ?_; apply Exists.intro; refine ⟨fun wq hq hk => ?_, ?_⟩
         · simp only [pureAt]; go_simp; (try simp only [↓IntWalk.iteOmega]); (try go_bits); (try simp only [pureUpon]); (first | done | exact ⟨rfl, rfl⟩ | exact ⟨trivial, rfl⟩ | rfl)
         (try simp only [Act.put, List.setIfInBounds_toArray, List.set_cons_zero, List.set_cons_succ]))
    first
      | (refine ty_skip rfl rfl ?_; (try simp only [Act.put, List.setIfInBounds_toArray, List.set_cons_zero, List.set_cons_succ]))
      | (refine ty_pure rfl rfl rfl rfl ?_; apply Exists.intro; refine ⟨fun wq hq hk => ?_, ?_⟩
         · simp only [pureAt]; go_simp; (try simp only [↓IntWalk.iteOmega]); (try go_bits); (try simp only [pureUpon]); (first | done | exact ⟨rfl, rfl⟩ | exact ⟨trivial, rfl⟩ | rfl)
         (try simp only [Act.put, List.setIfInBounds_toArray, List.set_cons_zero, List.set_cons_succ]))
    refine ty_rel rfl rfl _ rfl rfl (fun wq hq hk => ?_) ?_
    · have hc5 := HCV.out wq (X6.gr hq); simp only [relAt]; go_simp; (try simp only [relUpon]); exact .mk (Below.refl _ _) () rfl trivial
    rintro ⟨⟩
    (try simp only [Act.put, List.setIfInBounds_toArray, List.set_cons_zero, List.set_cons_succ])
    first
      | (refine ty_skip rfl rfl ?_; (try simp only [Act.put, List.setIfInBounds_toArray, List.set_cons_zero, List.set_cons_succ]))
      | (refine ty_pure rfl rfl rfl rfl ?_; apply Exists.intro; refine ⟨fun wq hq hk => ?_, ?_⟩
         · simp only [pureAt]; go_simp; (try simp only [↓IntWalk.iteOmega]); (try go_bits); (try simp only [pureUpon]); (first | done | exact ⟨rfl, rfl⟩ | exact ⟨trivial, rfl⟩ | rfl)
         (try simp only [Act.put, List.setIfInBounds_toArray, List.set_cons_zero, List.set_cons_succ]))
    first
      | (refine ty_skip rfl rfl ?_; (try simp only [Act.put, List.setIfInBounds_toArray, List.set_cons_zero, List.set_cons_succ]))
      | (refine ty_pure rfl rfl rfl rfl ?_; apply Exists.intro; refine ⟨fun wq hq hk => ?_, ?_⟩
         · simp only [pureAt]; go_simp; (try simp only [↓IntWalk.iteOmega]); (try go_bits); (try simp only [pureUpon]); (first | done | exact ⟨rfl, rfl⟩ | exact ⟨trivial, rfl⟩ | rfl)
         (try simp only [Act.put, List.setIfInBounds_toArray, List.set_cons_zero, List.set_cons_succ]))
    refine ty_nil ?_
    simp only [List.drop_succ_cons, List.drop_zero]
    intro W7 hw7 hΓ
    have HB7 := Below.thn HB6 hw7.out HB6.size
    clear hΓ hw7 HB6 X6
    go_wp2_with fail
    go_ret
    exact ⟨rfl, HB7⟩
  · go_enter Try.func5, Try.ntmps5
    go_wp2_with fail
    refine (awake06_any _).mono ?_
    rintro e W1 ⟨rfl, HB1⟩
    have hs1 := HB1.size
    go_wp2_with fail
    refine (new_bad key _ hk).mono ?_
    rintro e W2 ⟨rfl, hb⟩
    have HB2 := Below.thn HB1 hb hs1
    have hs2 := HB2.size
    clear hb HB1 hs1
    go_wp2_with (refine wpList_put rfl 29 _ _ rfl W2.heap.size _ _ 29 rfl rfl (Blk.new _ _ _) (by rw [zkey_size]; kernel_rfl) rfl zkey_one (fun W3 hp3 K3 => ?_))
    (try simp only [Act.put])
    go_ret
    exact ⟨rfl, hp3.below (by omega) (by (repeat (first | (with_reducible assumption) | (with_reducible exact Below.refl _ _) | with_reducible apply bl_drewN | with_reducible apply Below.drew | (with_reducible apply bl_alloc; focus (first | (simp; done) | (simp; omega) | omega)) | (with_reducible apply bl_set; focus (first | (simp; done) | (simp; omega) | omega)))))⟩
theorem rep_zeroL (n : Nat) : Lib.repeatL ([0] : List UInt8) n = List.replicate n 0 := by
  induction n with
  | zero => rfl
  | succ n ih => rw [List.replicate_succ]; simp only [Lib.repeatL] at ih ⊢; simpa using ih
theorem hp_any {a b : ByteArray} (h : ∀ W, Calls Try.prog 22 #[.string a, .string b] W fun e w' => e = .returned (.bool true) ∧ w' = W) (W : World) : Calls Try.prog 22 #[.string a, .string b] W fun e w' => e = .returned (.bool true) ∧ Below W.heap.size W w' :=
  (h W).mono fun e w' h => ⟨h.1, by rw [h.2]; exact Below.refl _ _⟩
theorem rep_zero (n : Nat) (w : World) (hn : n ≤ 1000) : Calls Try.prog 24 #[.string ⟨#[0]⟩, .int .i64 (n : Int)] w fun e w' => e = .returned (.string ⟨(List.replicate n (0 : UInt8)).toArray⟩) ∧ Below w.heap.size w w' := by
  have := Try.strings_Repeat ⟨#[0]⟩ n w (by omega) (by show 1 * n ≤ _; omega)
  rw [show (Lib.repeatL (⟨#[0]⟩ : ByteArray).data.toList n) = List.replicate n 0 from rep_zeroL n] at this
  exact this
set_option maxHeartbeats 8000000 in
set_option maxRecDepth 20000 in
theorem parts_walk (key s t : ByteArray) (nonce : Nat) (hnon : nonce ≤ 18446744073709551615) (hk : key.size = 16) (hs : s.size ≤ 100) (ht : t.size ≤ 100) (w : World) :
    Calls Try.prog 6 #[.string key, .int .u64 (nonce : Int), .string s, .string t] w fun e w' => e = .returned (.bool true) ∧ Below w.heap.size w w' := by
  obtain ⟨KL, hkl⟩ : ∃ k, key.data.toList = k := ⟨_, rfl⟩
  have g0 : (key.size : Int) = 16 := by omega
  have g1 : ¬ (100 : Int) < max (s.size : Int) t.size := by omega
  have hKL : KL.length = 16 := by rw [← hkl]; exact hk
  have hone := kcells_one (keysN KL 10)
  have hKs := keysN_size KL hKL
  have hnw := fun W => new_any key W hk
  rw [hkl] at hnw
  have hst := fun (m : Nat) (hm : m ≤ 65536) W => stream_any KL nonce m hKL hnon hm W
  have htu := fun (s : ByteArray) (hs : s.size ≤ 100000) W => cturn_any KL nonce s hKL hnon hs W
  have hen := fun (l : List UInt8) (hl : l.length = 16) W => encrypt_any KL l hKL hl W
  obtain ⟨K, hK⟩ : ∃ K, (kcells (keysN KL 10)).toArray = K := ⟨_, rfl⟩
  rw [hK] at hnw hst htu hen hone hKs
  have HNW := Lib.hid hnw; have HST := Lib.hid hst; have HTU := Lib.hid htu; have HEN := Lib.hid hen
  clear hnw hst htu hen hK
  have hx := HTU.out s (by omega)
  have hy := HTU.out (s ++ t) (by rw [sz_app]; omega)
  have hz := HTU.out ⟨(List.replicate s.size (0 : UInt8)).toArray⟩ (by rw [ba_size]; simp; omega)
  have hz2 := HST.out s.size (by omega)
  have hpre := turnS_pre KL nonce s.data.toList t.data.toList hKL
  rw [← ba_app] at hpre
  have hyl := turnS_len KL nonce (s ++ t).data.toList hKL
  rw [show turnS KL nonce (⟨(List.replicate s.size (0 : UInt8)).toArray⟩ : ByteArray).data.toList = streamL KL nonce s.size from turnS_noughts KL nonce s.size hKL] at hz
  obtain ⟨x, hxx⟩ : ∃ x, turnS KL nonce s.data.toList = x := ⟨_, rfl⟩
  obtain ⟨y, hyy⟩ : ∃ x, turnS KL nonce (s ++ t).data.toList = x := ⟨_, rfl⟩
  obtain ⟨z, hzz⟩ : ∃ x : ByteArray, (⟨(streamL KL nonce s.size).toArray⟩ : ByteArray) = x := ⟨_, rfl⟩
  obtain ⟨X, hX⟩ : ∃ q : ByteArray, (⟨x.toArray⟩ : ByteArray) = q := ⟨_, rfl⟩
  obtain ⟨Y, hY⟩ : ∃ q : ByteArray, (⟨y.toArray⟩ : ByteArray) = q := ⟨_, rfl⟩
  rw [hxx] at hx hpre; rw [hyy] at hy hpre hyl; rw [hzz] at hz hz2
  rw [hX] at hx; rw [hY] at hy
  have hhp := fun W => Try.strings_HasPrefix Y X W
  rw [show Lib.hasPrefix Y.data.toList X.data.toList = true by rw [← hX, ← hY]; exact hpre] at hhp
  obtain ⟨R, hR⟩ : ∃ x : ByteArray, (⟨(List.replicate s.size (0 : UInt8)).toArray⟩ : ByteArray) = x := ⟨_, rfl⟩
  have hrep := fun W => rep_zero s.size W (by omega)
  rw [hR] at hrep hz
  have hYs : Y.size = s.size + t.size := by rw [← hY, ba_size]; simpa using hyl.trans (by show (s ++ t).size = _; rw [sz_app])
  have hYi : (Y.size : Int) = (s.size : Int) + (t.size : Int) := by omega
  have HX := Lib.hid hx; have HY := Lib.hid hy; have HZ := Lib.hid hz; have HZ2 := Lib.hid hz2; have HHP := Lib.hid hhp; have HREP := Lib.hid hrep
  clear hx hy hz hz2 hhp hrep hpre hyl hxx hyy hzz hX hY hR hkl hYs
  go_enter Try.func6, Try.ntmps6
  go_wp2_with fail
  refine (awake06_any _).mono ?_
  rintro e W1 ⟨rfl, HB1⟩
  have hs1 := HB1.size
  go_wp2_with fail
  refine (HNW.out _).mono ?_
  rintro e W2 ⟨rfl, hb⟩
  have HB2 := Below.thn HB1 hb hs1
  have hs2 := HB2.size
  clear hb HB1 hs1
  go_upto_region 6 with (refine wpList_put rfl 29 _ _ rfl W2.heap.size _ _ 29 rfl rfl (Blk.new _ _ _) (by rw [hKs]; kernel_rfl) (hKs.trans zkey_size.symm) hone (fun W3 hp3 K3 => ?_))
  (try simp only [Act.put])
  obtain ⟨b, hb⟩ : ∃ b, W2.heap.size = b := ⟨_, rfl⟩
  have HB3 : Below w.heap.size w W3 := hp3.below (by omega) (by (repeat (first | (with_reducible assumption) | (with_reducible exact Below.refl _ _) | with_reducible apply bl_drewN | with_reducible apply Below.drew | (with_reducible apply bl_alloc; focus (first | (simp; done) | (simp; omega) | omega)) | (with_reducible apply bl_set; focus (first | (simp; done) | (simp; omega) | omega)))))
  rw [hb] at K3 hs2 ⊢
  clear hp3 hb HB2
  refine wp_region_typed 10 (fun k => match k with  | _ => []) (fun k => match k with  | _ => false) (fun k => match k with | 0 => some ⟨(Unit), (()), (fun _ => .agg K), (fun _ _ => True), (fun _ _ _ h _ => h)⟩ | 3 => some ⟨(Unit), (()), (fun _ => .string X), (fun _ _ => True), (fun _ _ _ h _ => h)⟩ | 4 => some ⟨(Unit), (()), (fun _ => .agg K), (fun _ _ => True), (fun _ _ _ h _ => h)⟩ | 9 => some ⟨(Unit), (()), (fun _ => .string Y), (fun _ _ => True), (fun _ _ _ h _ => h)⟩ | _ => none) (by kernel_rfl) (by kernel_rfl) (by intro d0 v0 c0 a0 w0 h0; first | (cases d0 <;> exact h0) | exact hP _ _ _ _ _ h0) ?_
  rw [show List.range 10 = [0, 1, 2, 3, 4, 5, 6, 7, 8, 9] from rfl]
  refine ty_rel rfl rfl _ rfl rfl (fun wq hq hk => ?_) ?_
  · exact rel_load_blk _ _ rfl b rfl K _ (K3.gr hq) _ Try.underlying29 rfl (by rw [hKs]; kernel_rfl) (.mk (Below.refl _ _) () rfl trivial)
  rintro ⟨⟩
  (try simp only [Act.put, List.setIfInBounds_toArray, List.set_cons_zero, List.set_cons_succ])
  first
    | (refine ty_skip rfl rfl ?_; (try simp only [Act.put, List.setIfInBounds_toArray, List.set_cons_zero, List.set_cons_succ]))
    | (refine ty_pure rfl rfl rfl rfl ?_; apply Exists.intro; refine ⟨fun wq hq hk => ?_, ?_⟩
       · simp only [pureAt]; go_simp; (try simp only [↓IntWalk.iteOmega]); (try go_bits); (try simp only [pureUpon]); (first | done | exact ⟨rfl, rfl⟩ | exact ⟨trivial, rfl⟩ | rfl)
       (try simp only [Act.put, List.setIfInBounds_toArray, List.set_cons_zero, List.set_cons_succ]))
  first
    | (refine ty_skip rfl rfl ?_; (try simp only [Act.put, List.setIfInBounds_toArray, List.set_cons_zero, List.set_cons_succ]))
    | (refine ty_pure rfl rfl rfl rfl ?_; apply Exists.intro; refine ⟨fun wq hq hk => ?_, ?_⟩
       · simp only [pureAt]; go_simp; (try simp only [↓IntWalk.iteOmega]); (try go_bits); (try simp only [pureUpon]); (first | done | exact ⟨rfl, rfl⟩ | exact ⟨trivial, rfl⟩ | rfl)
       (try simp only [Act.put, List.setIfInBounds_toArray, List.set_cons_zero, List.set_cons_succ]))
  refine ty_rel rfl rfl _ rfl rfl (fun wq hq hk => ?_) ?_
  · simp only [relAt]; go_simp; (try simp only [relUpon]); (go_at_call 19; refine (HX.out _).mono ?_; rintro e w9 ⟨rfl, hb9⟩; exact ⟨_, rfl, .mk hb9 () rfl trivial⟩)
  rintro ⟨⟩
  (try simp only [Act.put, List.setIfInBounds_toArray, List.set_cons_zero, List.set_cons_succ])
  refine ty_rel rfl rfl _ rfl rfl (fun wq hq hk => ?_) ?_
  · exact rel_load_blk _ _ rfl b rfl K _ (K3.gr hq) _ Try.underlying29 rfl (by rw [hKs]; kernel_rfl) (.mk (Below.refl _ _) () rfl trivial)
  rintro ⟨⟩
  (try simp only [Act.put, List.setIfInBounds_toArray, List.set_cons_zero, List.set_cons_succ])
  first
    | (refine ty_skip rfl rfl ?_; (try simp only [Act.put, List.setIfInBounds_toArray, List.set_cons_zero, List.set_cons_succ]))
    | (refine ty_pure rfl rfl rfl rfl ?_; apply Exists.intro; refine ⟨fun wq hq hk => ?_, ?_⟩
       · simp only [pureAt]; go_simp; (try simp only [↓IntWalk.iteOmega]); (try go_bits); (try simp only [pureUpon]); (first | done | exact ⟨rfl, rfl⟩ | exact ⟨trivial, rfl⟩ | rfl)
       (try simp only [Act.put, List.setIfInBounds_toArray, List.set_cons_zero, List.set_cons_succ]))
  first
    | (refine ty_skip rfl rfl ?_; (try simp only [Act.put, List.setIfInBounds_toArray, List.set_cons_zero, List.set_cons_succ]))
    | (refine ty_pure rfl rfl rfl rfl ?_; apply Exists.intro; refine ⟨fun wq hq hk => ?_, ?_⟩
       · simp only [pureAt]; go_simp; (try simp only [↓IntWalk.iteOmega]); (try go_bits); (try simp only [pureUpon]); (first | done | exact ⟨rfl, rfl⟩ | exact ⟨trivial, rfl⟩ | rfl)
       (try simp only [Act.put, List.setIfInBounds_toArray, List.set_cons_zero, List.set_cons_succ]))
  first
    | (refine ty_skip rfl rfl ?_; (try simp only [Act.put, List.setIfInBounds_toArray, List.set_cons_zero, List.set_cons_succ]))
    | (refine ty_pure rfl rfl rfl rfl ?_; apply Exists.intro; refine ⟨fun wq hq hk => ?_, ?_⟩
       · simp only [pureAt]; go_simp; (try simp only [↓IntWalk.iteOmega]); (try go_bits); (try simp only [pureUpon]); (first | done | exact ⟨rfl, rfl⟩ | exact ⟨trivial, rfl⟩ | rfl)
       (try simp only [Act.put, List.setIfInBounds_toArray, List.set_cons_zero, List.set_cons_succ]))
  first
    | (refine ty_skip rfl rfl ?_; (try simp only [Act.put, List.setIfInBounds_toArray, List.set_cons_zero, List.set_cons_succ]))
    | (refine ty_pure rfl rfl rfl rfl ?_; apply Exists.intro; refine ⟨fun wq hq hk => ?_, ?_⟩
       · simp only [pureAt]; go_simp; (try simp only [↓IntWalk.iteOmega]); (try go_bits); (try simp only [pureUpon]); (first | done | exact ⟨rfl, rfl⟩ | exact ⟨trivial, rfl⟩ | rfl)
       (try simp only [Act.put, List.setIfInBounds_toArray, List.set_cons_zero, List.set_cons_succ]))
  refine ty_rel rfl rfl _ rfl rfl (fun wq hq hk => ?_) ?_
  · simp only [relAt]; go_simp; (try simp only [relUpon]); (go_at_call 19; refine (HY.out _).mono ?_; rintro e w9 ⟨rfl, hb9⟩; exact ⟨_, rfl, .mk hb9 () rfl trivial⟩)
  rintro ⟨⟩
  (try simp only [Act.put, List.setIfInBounds_toArray, List.set_cons_zero, List.set_cons_succ])
  refine ty_nil ?_
  simp only [List.drop_succ_cons, List.drop_zero]
  intro W5 hw5 hΓ
  have HB5 := Below.thn HB3 hw5.out HB3.size
  have K5 := K3.gr hw5
  clear hΓ hw5 HB3 K3
  go_wp2_with (first | (refine wpList_load_row rfl 29 _ rfl b rfl 29 _ (0, 0) _ K5.out Try.underlying29 rfl (by rw [hKs]; kernel_rfl) ?_))
  refine (HZ2.out _).mono ?_
  rintro e W6 ⟨rfl, hb⟩
  have HB6 := Below.thn HB5 hb HB5.size
  have K6 := K5.below hb
  clear hb HB5 K5
  go_wp2_with fail
  refine wp_region_typed 31 (fun k => match k with  | _ => []) (fun k => match k with  | _ => false) (fun k => match k with | 19 => some ⟨(Unit), (()), (fun _ => .bool true), (fun _ _ => True), (fun _ _ _ h _ => h)⟩ | 22 => some ⟨(Unit), (()), (fun _ => .agg K), (fun _ _ => True), (fun _ _ _ h _ => h)⟩ | 26 => some ⟨(Unit), (()), (fun _ => .string R), (fun _ _ => True), (fun _ _ _ h _ => h)⟩ | 27 => some ⟨(Unit), (()), (fun _ => .string z), (fun _ _ => True), (fun _ _ _ h _ => h)⟩ | _ => none) (by kernel_rfl) (by kernel_rfl) (by intro d0 v0 c0 a0 w0 h0; first | (cases d0 <;> exact h0) | exact hP _ _ _ _ _ h0) ?_
  rw [show List.range 31 = [0, 1, 2, 3, 4, 5, 6, 7, 8, 9, 10, 11, 12, 13, 14, 15, 16, 17, 18, 19, 20, 21, 22, 23, 24, 25, 26, 27, 28, 29, 30] from rfl]
  first
    | (refine ty_skip rfl rfl ?_; (try simp only [Act.put, List.setIfInBounds_toArray, List.set_cons_zero, List.set_cons_succ]))
    | (refine ty_pure rfl rfl rfl rfl ?_; apply Exists.intro; refine ⟨fun wq hq hk => ?_, ?_⟩
       · simp only [pureAt]; go_simp; (try simp only [↓IntWalk.iteOmega]); (try go_bits); (try simp only [pureUpon]); (first | done | exact ⟨rfl, rfl⟩ | exact ⟨trivial, rfl⟩ | rfl)
       (try simp only [Act.put, List.setIfInBounds_toArray, List.set_cons_zero, List.set_cons_succ]))
  first
    | (refine ty_skip rfl rfl ?_; (try simp only [Act.put, List.setIfInBounds_toArray, List.set_cons_zero, List.set_cons_succ]))
    | (refine ty_pure rfl rfl rfl rfl ?_; apply Exists.intro; refine ⟨fun wq hq hk => ?_, ?_⟩
       · simp only [pureAt]; go_simp; (try simp only [↓IntWalk.iteOmega]); (try go_bits); (try simp only [pureUpon]); (first | done | exact ⟨rfl, rfl⟩ | exact ⟨trivial, rfl⟩ | rfl)
       (try simp only [Act.put, List.setIfInBounds_toArray, List.set_cons_zero, List.set_cons_succ]))
  first
    | (refine ty_skip rfl rfl ?_; (try simp only [Act.put, List.setIfInBounds_toArray, List.set_cons_zero, List.set_cons_succ]))
    | (refine ty_pure rfl rfl rfl rfl ?_; apply Exists.intro; refine ⟨fun wq hq hk => ?_, ?_⟩
       · simp only [pureAt]; go_simp; (try simp only [↓IntWalk.iteOmega]); (try go_bits); (try simp only [pureUpon]); (first | done | exact ⟨rfl, rfl⟩ | exact ⟨trivial, rfl⟩ | rfl)
       (try simp only [Act.put, List.setIfInBounds_toArray, List.set_cons_zero, List.set_cons_succ]))
  first
    | (refine ty_skip rfl rfl ?_; (try simp only [Act.put, List.setIfInBounds_toArray, List.set_cons_zero, List.set_cons_succ]))
    | (refine ty_pure rfl rfl rfl rfl ?_; apply Exists.intro; refine ⟨fun wq hq hk => ?_, ?_⟩
       · simp only [pureAt]; go_simp; (try simp only [↓IntWalk.iteOmega]); (try go_bits); (try simp only [pureUpon]); (first | done | exact ⟨rfl, rfl⟩ | exact ⟨trivial, rfl⟩ | rfl)
       (try simp only [Act.put, List.setIfInBounds_toArray, List.set_cons_zero, List.set_cons_succ]))
  first
    | (refine ty_skip rfl rfl ?_; (try simp only [Act.put, List.setIfInBounds_toArray, List.set_cons_zero, List.set_cons_succ]))
    | (refine ty_pure rfl rfl rfl rfl ?_; apply Exists.intro; refine ⟨fun wq hq hk => ?_, ?_⟩
       · simp only [pureAt]; go_simp; (try simp only [↓IntWalk.iteOmega]); (try go_bits); (try simp only [pureUpon]); (first | done | exact ⟨rfl, rfl⟩ | exact ⟨trivial, rfl⟩ | rfl)
       (try simp only [Act.put, List.setIfInBounds_toArray, List.set_cons_zero, List.set_cons_succ]))
  first
    | (refine ty_skip rfl rfl ?_; (try simp only [Act.put, List.setIfInBounds_toArray, List.set_cons_zero, List.set_cons_succ]))
    | (refine ty_pure rfl rfl rfl rfl ?_; apply Exists.intro; refine ⟨fun wq hq hk => ?_, ?_⟩
       · simp only [pureAt]; go_simp; (try simp only [↓IntWalk.iteOmega]); (try go_bits); (try simp only [pureUpon]); (first | done | exact ⟨rfl, rfl⟩ | exact ⟨trivial, rfl⟩ | rfl)
       (try simp only [Act.put, List.setIfInBounds_toArray, List.set_cons_zero, List.set_cons_succ]))
  first
    | (refine ty_skip rfl rfl ?_; (try simp only [Act.put, List.setIfInBounds_toArray, List.set_cons_zero, List.set_cons_succ]))
    | (refine ty_pure rfl rfl rfl rfl ?_; apply Exists.intro; refine ⟨fun wq hq hk => ?_, ?_⟩
       · simp only [pureAt]; go_simp; (try simp only [↓IntWalk.iteOmega]); (try go_bits); (try simp only [pureUpon]); (first | done | exact ⟨rfl, rfl⟩ | exact ⟨trivial, rfl⟩ | rfl)
       (try simp only [Act.put, List.setIfInBounds_toArray, List.set_cons_zero, List.set_cons_succ]))
  first
    | (refine ty_skip rfl rfl ?_; (try simp only [Act.put, List.setIfInBounds_toArray, List.set_cons_zero, List.set_cons_succ]))
    | (refine ty_pure rfl rfl rfl rfl ?_; apply Exists.intro; refine ⟨fun wq hq hk => ?_, ?_⟩
       · simp only [pureAt]; go_simp; (try simp only [↓IntWalk.iteOmega]); (try go_bits); (try simp only [pureUpon]); (first | done | exact ⟨rfl, rfl⟩ | exact ⟨trivial, rfl⟩ | rfl)
       (try simp only [Act.put, List.setIfInBounds_toArray, List.set_cons_zero, List.set_cons_succ]))
  first
    | (refine ty_skip rfl rfl ?_; (try simp only [Act.put, List.setIfInBounds_toArray, List.set_cons_zero, List.set_cons_succ]))
    | (refine ty_pure rfl rfl rfl rfl ?_; apply Exists.intro; refine ⟨fun wq hq hk => ?_, ?_⟩
       · simp only [pureAt]; go_simp; (try simp only [↓IntWalk.iteOmega]); (try go_bits); (try simp only [pureUpon]); (first | done | exact ⟨rfl, rfl⟩ | exact ⟨trivial, rfl⟩ | rfl)
       (try simp only [Act.put, List.setIfInBounds_toArray, List.set_cons_zero, List.set_cons_succ]))
  first
    | (refine ty_skip rfl rfl ?_; (try simp only [Act.put, List.setIfInBounds_toArray, List.set_cons_zero, List.set_cons_succ]))
    | (refine ty_pure rfl rfl rfl rfl ?_; apply Exists.intro; refine ⟨fun wq hq hk => ?_, ?_⟩
       · simp only [pureAt]; go_simp; (try simp only [↓IntWalk.iteOmega]); (try go_bits); (try simp only [pureUpon]); (first | done | exact ⟨rfl, rfl⟩ | exact ⟨trivial, rfl⟩ | rfl)
       (try simp only [Act.put, List.setIfInBounds_toArray, List.set_cons_zero, List.set_cons_succ]))
  first
    | (refine ty_skip rfl rfl ?_; (try simp only [Act.put, List.setIfInBounds_toArray, List.set_cons_zero, List.set_cons_succ]))
    | (refine ty_pure rfl rfl rfl rfl ?_; apply Exists.intro; refine ⟨fun wq hq hk => ?_, ?_⟩
       · simp only [pureAt]; go_simp; (try simp only [↓IntWalk.iteOmega]); (try go_bits); (try simp only [pureUpon]); (first | done | exact ⟨rfl, rfl⟩ | exact ⟨trivial, rfl⟩ | rfl)
       (try simp only [Act.put, List.setIfInBounds_toArray, List.set_cons_zero, List.set_cons_succ]))
  first
    | (refine ty_skip rfl rfl ?_; (try simp only [Act.put, List.setIfInBounds_toArray, List.set_cons_zero, List.set_cons_succ]))
    | (refine ty_pure rfl rfl rfl rfl ?_; apply Exists.intro; refine ⟨fun wq hq hk => ?_, ?_⟩
       · simp only [pureAt]; go_simp; (try simp only [↓IntWalk.iteOmega]); (try go_bits); (try simp only [pureUpon]); (first | done | exact ⟨rfl, rfl⟩ | exact ⟨trivial, rfl⟩ | rfl)
       (try simp only [Act.put, List.setIfInBounds_toArray, List.set_cons_zero, List.set_cons_succ]))
  first
    | (refine ty_skip rfl rfl ?_; (try simp only [Act.put, List.setIfInBounds_toArray, List.set_cons_zero, List.set_cons_succ]))
    | (refine ty_pure rfl rfl rfl rfl ?_; apply Exists.intro; refine ⟨fun wq hq hk => ?_, ?_⟩
       · simp only [pureAt]; go_simp; (try simp only [↓IntWalk.iteOmega]); (try go_bits); (try simp only [pureUpon]); (first | done | exact ⟨rfl, rfl⟩ | exact ⟨trivial, rfl⟩ | rfl)
       (try simp only [Act.put, List.setIfInBounds_toArray, List.set_cons_zero, List.set_cons_succ]))
  first
    | (refine ty_skip rfl rfl ?_; (try simp only [Act.put, List.setIfInBounds_toArray, List.set_cons_zero, List.set_cons_succ]))
    | (refine ty_pure rfl rfl rfl rfl ?_; apply Exists.intro; refine ⟨fun wq hq hk => ?_, ?_⟩
       · simp only [pureAt]; go_simp; (try simp only [↓IntWalk.iteOmega]); (try go_bits); (try simp only [pureUpon]); (first | done | exact ⟨rfl, rfl⟩ | exact ⟨trivial, rfl⟩ | rfl)
       (try simp only [Act.put, List.setIfInBounds_toArray, List.set_cons_zero, List.set_cons_succ]))
  first
    | (refine ty_skip rfl rfl ?_; (try simp only [Act.put, List.setIfInBounds_toArray, List.set_cons_zero, List.set_cons_succ]))
    | (refine ty_pure rfl rfl rfl rfl ?_; apply Exists.intro; refine ⟨fun wq hq hk => ?_, ?_⟩
       · simp only [pureAt]; go_simp; (try simp only [↓IntWalk.iteOmega]); (try go_bits); (try simp only [pureUpon]); (first | done | exact ⟨rfl, rfl⟩ | exact ⟨trivial, rfl⟩ | rfl)
       (try simp only [Act.put, List.setIfInBounds_toArray, List.set_cons_zero, List.set_cons_succ]))
  first
    | (refine ty_skip rfl rfl ?_; (try simp only [Act.put, List.setIfInBounds_toArray, List.set_cons_zero, List.set_cons_succ]))
    | (refine ty_pure rfl rfl rfl rfl ?_; apply Exists.intro; refine ⟨fun wq hq hk => ?_, ?_⟩
       · simp only [pureAt]; go_simp; (try simp only [↓IntWalk.iteOmega]); (try go_bits); (try simp only [pureUpon]); (first | done | exact ⟨rfl, rfl⟩ | exact ⟨trivial, rfl⟩ | rfl)
       (try simp only [Act.put, List.setIfInBounds_toArray, List.set_cons_zero, List.set_cons_succ]))
  first
    | (refine ty_skip rfl rfl ?_; (try simp only [Act.put, List.setIfInBounds_toArray, List.set_cons_zero, List.set_cons_succ]))
    | (refine ty_pure rfl rfl rfl rfl ?_; apply Exists.intro; refine ⟨fun wq hq hk => ?_, ?_⟩
       · simp only [pureAt]; go_simp; (try simp only [↓IntWalk.iteOmega]); (try go_bits); (try simp only [pureUpon]); (first | done | exact ⟨rfl, rfl⟩ | exact ⟨trivial, rfl⟩ | rfl)
       (try simp only [Act.put, List.setIfInBounds_toArray, List.set_cons_zero, List.set_cons_succ]))
  first
    | (refine ty_skip rfl rfl ?_; (try simp only [Act.put, List.setIfInBounds_toArray, List.set_cons_zero, List.set_cons_succ]))
    | (refine ty_pure rfl rfl rfl rfl ?_; apply Exists.intro; refine ⟨fun wq hq hk => ?_, ?_⟩
       · simp only [pureAt]; go_simp; (try simp only [↓IntWalk.iteOmega]); (try go_bits); (try simp only [pureUpon]); (first | done | exact ⟨rfl, rfl⟩ | exact ⟨trivial, rfl⟩ | rfl)
       (try simp only [Act.put, List.setIfInBounds_toArray, List.set_cons_zero, List.set_cons_succ]))
  first
    | (refine ty_skip rfl rfl ?_; (try simp only [Act.put, List.setIfInBounds_toArray, List.set_cons_zero, List.set_cons_succ]))
    | (refine ty_pure rfl rfl rfl rfl ?_; apply Exists.intro; refine ⟨fun wq hq hk => ?_, ?_⟩
       · simp only [pureAt]; go_simp; (try simp only [↓IntWalk.iteOmega]); (try go_bits); (try simp only [pureUpon]); (first | done | exact ⟨rfl, rfl⟩ | exact ⟨trivial, rfl⟩ | rfl)
       (try simp only [Act.put, List.setIfInBounds_toArray, List.set_cons_zero, List.set_cons_succ]))
  refine ty_rel rfl rfl _ rfl rfl (fun wq hq hk => ?_) ?_
  · simp only [relAt]; go_simp; (try simp only [relUpon]); (go_at_call 22; refine (hp_any HHP.out _).mono ?_; rintro e w9 ⟨rfl, hb9⟩; exact ⟨_, rfl, .mk hb9 () rfl trivial⟩)
  rintro ⟨⟩
  (try simp only [Act.put, List.setIfInBounds_toArray, List.set_cons_zero, List.set_cons_succ])
  first
    | (refine ty_skip rfl rfl ?_; (try simp only [Act.put, List.setIfInBounds_toArray, List.set_cons_zero, List.set_cons_succ]))
    | (refine ty_pure rfl rfl rfl rfl ?_; apply Exists.intro; refine ⟨fun wq hq hk => ?_, ?_⟩
       · simp only [pureAt]; go_simp; (try simp only [↓IntWalk.iteOmega]); (try go_bits); (try simp only [pureUpon]); (first | done | exact ⟨rfl, rfl⟩ | exact ⟨trivial, rfl⟩ | rfl)
       (try simp only [Act.put, List.setIfInBounds_toArray, List.set_cons_zero, List.set_cons_succ]))
  first
    | (refine ty_skip rfl rfl ?_; (try simp only [Act.put, List.setIfInBounds_toArray, List.set_cons_zero, List.set_cons_succ]))
    | (refine ty_pure rfl rfl rfl rfl ?_; apply Exists.intro; refine ⟨fun wq hq hk => ?_, ?_⟩
       · simp only [pureAt]; go_simp; (try simp only [↓IntWalk.iteOmega]); (try go_bits); (try simp only [pureUpon]); (first | done | exact ⟨rfl, rfl⟩ | exact ⟨trivial, rfl⟩ | rfl)
       (try simp only [Act.put, List.setIfInBounds_toArray, List.set_cons_zero, List.set_cons_succ]))
  refine ty_rel rfl rfl _ rfl rfl (fun wq hq hk => ?_) ?_
  · exact rel_load_blk _ _ rfl b rfl K _ (K6.gr hq) _ Try.underlying29 rfl (by rw [hKs]; kernel_rfl) (.mk (Below.refl _ _) () rfl trivial)
  rintro ⟨⟩
  (try simp only [Act.put, List.setIfInBounds_toArray, List.set_cons_zero, List.set_cons_succ])
  first
    | (refine ty_skip rfl rfl ?_; (try simp only [Act.put, List.setIfInBounds_toArray, List.set_cons_zero, List.set_cons_succ]))
    | (refine ty_pure rfl rfl rfl rfl ?_; apply Exists.intro; refine ⟨fun wq hq hk => ?_, ?_⟩
       · simp only [pureAt]; go_simp; (try simp only [↓IntWalk.iteOmega]); (try go_bits); (try simp only [pureUpon]); (first | done | exact ⟨rfl, rfl⟩ | exact ⟨trivial, rfl⟩ | rfl)
       (try simp only [Act.put, List.setIfInBounds_toArray, List.set_cons_zero, List.set_cons_succ]))
  first
    | (refine ty_skip rfl rfl ?_; (try simp only [Act.put, List.setIfInBounds_toArray, List.set_cons_zero, List.set_cons_succ]))
    | (refine ty_pure rfl rfl rfl rfl ?_; apply Exists.intro; refine ⟨fun wq hq hk => ?_, ?_⟩
       · simp only [pureAt]; go_simp; (try simp only [↓IntWalk.iteOmega]); (try go_bits); (try simp only [pureUpon]); (first | done | exact ⟨rfl, rfl⟩ | exact ⟨trivial, rfl⟩ | rfl)
       (try simp only [Act.put, List.setIfInBounds_toArray, List.set_cons_zero, List.set_cons_succ]))
  first
    | (refine ty_skip rfl rfl ?_; (try simp only [Act.put, List.setIfInBounds_toArray, List.set_cons_zero, List.set_cons_succ]))
    | (refine ty_pure rfl rfl rfl rfl ?_; apply Exists.intro; refine ⟨fun wq hq hk => ?_, ?_⟩
       · simp only [pureAt]; go_simp; (try simp only [↓IntWalk.iteOmega]); (try go_bits); (try simp only [pureUpon]); (first | done | exact ⟨rfl, rfl⟩ | exact ⟨trivial, rfl⟩ | rfl)
       (try simp only [Act.put, List.setIfInBounds_toArray, List.set_cons_zero, List.set_cons_succ]))
  refine ty_rel rfl rfl _ rfl rfl (fun wq hq hk => ?_) ?_
  · simp only [relAt]; go_simp; (try simp only [relUpon]); (go_at_call 24; refine (HREP.out _).mono ?_; rintro e w9 ⟨rfl, hb9⟩; exact ⟨_, rfl, .mk hb9 () rfl trivial⟩)
  rintro ⟨⟩
  (try simp only [Act.put, List.setIfInBounds_toArray, List.set_cons_zero, List.set_cons_succ])
  refine ty_rel rfl rfl _ rfl rfl (fun wq hq hk => ?_) ?_
  · simp only [relAt]; go_simp; (try simp only [relUpon]); (go_at_call 19; refine (HZ.out _).mono ?_; rintro e w9 ⟨rfl, hb9⟩; exact ⟨_, rfl, .mk hb9 () rfl trivial⟩)
  rintro ⟨⟩
  (try simp only [Act.put, List.setIfInBounds_toArray, List.set_cons_zero, List.set_cons_succ])
  first
    | (refine ty_skip rfl rfl ?_; (try simp only [Act.put, List.setIfInBounds_toArray, List.set_cons_zero, List.set_cons_succ]))
    | (refine ty_pure rfl rfl rfl rfl ?_; apply Exists.intro; refine ⟨fun wq hq hk => ?_, ?_⟩
       · simp only [pureAt]; go_simp; (try simp only [↓IntWalk.iteOmega]); (try go_bits); (try simp only [pureUpon]); (first | done | exact ⟨rfl, rfl⟩ | exact ⟨trivial, rfl⟩ | rfl)
       (try simp only [Act.put, List.setIfInBounds_toArray, List.set_cons_zero, List.set_cons_succ]))
  first
    | (refine ty_skip rfl rfl ?_; (try simp only [Act.put, List.setIfInBounds_toArray, List.set_cons_zero, List.set_cons_succ]))
    | (refine ty_pure rfl rfl rfl rfl ?_; apply Exists.intro; refine ⟨fun wq hq hk => ?_, ?_⟩
       · simp only [pureAt]; go_simp; (try simp only [↓IntWalk.iteOmega]); (try go_bits); (try simp only [pureUpon]); (first | done | exact ⟨rfl, rfl⟩ | exact ⟨trivial, rfl⟩ | rfl)
       (try simp only [Act.put, List.setIfInBounds_toArray, List.set_cons_zero, List.set_cons_succ]))
  first
    | (refine ty_skip rfl rfl ?_; (try simp only [Act.put, List.setIfInBounds_toArray, List.set_cons_zero, List.set_cons_succ]))
    | (refine ty_pure rfl rfl rfl rfl ?_; apply Exists.intro; refine ⟨fun wq hq hk => ?_, ?_⟩
       · simp only [pureAt]; go_simp; (try simp only [↓IntWalk.iteOmega]); (try go_bits); (try simp only [pureUpon]); (first | done | exact ⟨rfl, rfl⟩ | exact ⟨trivial, rfl⟩ | rfl)
       (try simp only [Act.put, List.setIfInBounds_toArray, List.set_cons_zero, List.set_cons_succ]))
  refine ty_nil ?_
  simp only [List.drop_succ_cons, List.drop_zero]
  intro W7 hw7 hΓ
  have HB7 := Below.thn HB6 hw7.out HB6.size
  clear hΓ hw7 HB6 K6
  go_wp2_with fail
  go_ret
  exact ⟨rfl, HB7⟩
theorem xor_twice8 (a b k : UInt8) : (a ^^^ k) ^^^ (b ^^^ k) = a ^^^ b := by
  rw [UInt8.xor_assoc, UInt8.xor_comm b k, ← UInt8.xor_assoc k k b, UInt8.xor_self, UInt8.zero_xor]
theorem ba_idx (s : ByteArray) (i : Nat) (h : i < s.size) (x : UInt8) (hx : s.data.toList.getD i 0 = x) : (((s[i]'h).toNat : Nat) : Int) = ((x.toNat : Nat) : Int) := by
  rw [← hx, List.getD_eq_getElem?_getD, List.getElem?_eq_getElem (show i < s.data.toList.length from h)]; rfl
set_option maxHeartbeats 8000000 in
set_option maxRecDepth 20000 in
theorem longer_walk (key s t : ByteArray) (nonce n m : Nat) (hnon : nonce ≤ 18446744073709551615) (hk : key.size = 16) (hn : n ≤ 255) (hm : m ≤ 255) (hs : s.size ≤ 100) (ht : t.size ≤ 100) (w : World) :
    Calls Try.prog 4 #[.string key, .int .u64 (nonce : Int), .int .u8 (n : Int), .int .u8 (m : Int), .string s, .string t] w fun e w' => e = .returned (.bool true) ∧ Below w.heap.size w w' := by
  obtain ⟨KL, hkl⟩ : ∃ k, key.data.toList = k := ⟨_, rfl⟩
  have g1 : ¬ (100 : Int) < max (s.size : Int) t.size := by omega
  have hKL : KL.length = 16 := by rw [← hkl]; exact hk
  have hone := kcells_one (keysN KL 10)
  have hKs := keysN_size KL hKL
  have hnw := fun W => new_any key W hk
  rw [hkl] at hnw
  have hst := fun (m : Nat) (hm : m ≤ 65536) W => stream_any KL nonce m hKL hnon hm W
  have htu := fun (s : ByteArray) (hs : s.size ≤ 100000) W => cturn_any KL nonce s hKL hnon hs W
  have hen := fun (l : List UInt8) (hl : l.length = 16) W => encrypt_any KL l hKL hl W
  obtain ⟨K, hK⟩ : ∃ K, (kcells (keysN KL 10)).toArray = K := ⟨_, rfl⟩
  rw [hK] at hnw hst htu hen hone hKs
  have HNW := Lib.hid hnw; have HST := Lib.hid hst; have HTU := Lib.hid htu; have HEN := Lib.hid hen
  clear hnw hst htu hen hK
  obtain ⟨nm, hnm⟩ : ∃ k, n + m = k := ⟨_, rfl⟩
  have g2 : (n : Int) + (m : Int) = (nm : Int) := by omega
  have hx := HTU.out s (by omega)
  have hy := HTU.out t (by omega)
  have ha := HST.out n (by omega)
  have hb := HST.out nm (by omega)
  have hpre := streamL_pre KL nonce n m hKL
  rw [hnm] at hpre
  have hxl := turnS_len KL nonce s.data.toList hKL
  have hyl := turnS_len KL nonce t.data.toList hKL
  have hxg : ∀ i, i < s.size → i < t.size → (turnS KL nonce s.data.toList).getD i 0 ^^^ (turnS KL nonce t.data.toList).getD i 0 = s.data.toList.getD i 0 ^^^ t.data.toList.getD i 0 := fun i h1 h2 => by
    rw [turnS_get KL nonce _ i hKL h1, turnS_get KL nonce _ i hKL h2, xor_twice8]
  obtain ⟨x, hxx⟩ : ∃ x, turnS KL nonce s.data.toList = x := ⟨_, rfl⟩
  obtain ⟨y, hyy⟩ : ∃ x, turnS KL nonce t.data.toList = x := ⟨_, rfl⟩
  obtain ⟨a, haa⟩ : ∃ x, streamL KL nonce n = x := ⟨_, rfl⟩
  obtain ⟨bs, hbb⟩ : ∃ x, streamL KL nonce nm = x := ⟨_, rfl⟩
  rw [hxx] at hx hxl hxg; rw [hyy] at hy hyl hxg; rw [haa] at ha hpre; rw [hbb] at hb hpre
  obtain ⟨X, hX⟩ : ∃ q : ByteArray, (⟨x.toArray⟩ : ByteArray) = q := ⟨_, rfl⟩
  obtain ⟨Y, hY⟩ : ∃ q : ByteArray, (⟨y.toArray⟩ : ByteArray) = q := ⟨_, rfl⟩
  obtain ⟨A, hA⟩ : ∃ q : ByteArray, (⟨a.toArray⟩ : ByteArray) = q := ⟨_, rfl⟩
  obtain ⟨B, hB⟩ : ∃ q : ByteArray, (⟨bs.toArray⟩ : ByteArray) = q := ⟨_, rfl⟩
  rw [hX] at hx; rw [hY] at hy; rw [hA] at ha; rw [hB] at hb
  have hhp := fun W => Try.strings_HasPrefix B A W
  rw [show Lib.hasPrefix B.data.toList A.data.toList = true by rw [← hA, ← hB]; exact hpre] at hhp
  have hXs : X.size = s.size := by rw [← hX, ba_size]; simpa using hxl
  have hYs : Y.size = t.size := by rw [← hY, ba_size]; simpa using hyl
  have hXi : (X.size : Int) = (s.size : Int) := by omega
  have hYi : (Y.size : Int) = (t.size : Int) := by omega
  have hXl : X.data.toList = x := by rw [← hX]
  have hYl : Y.data.toList = y := by rw [← hY]
  rw [← hXl, ← hYl] at hxg
  obtain ⟨l, hl⟩ : ∃ l, min s.size t.size = l := ⟨_, rfl⟩
  have hli : min (s.size : Int) (t.size : Int) = (l : Int) := by omega
  have hX9 := Lib.hid hx; have hY9 := Lib.hid hy; have hA9 := Lib.hid ha; have hB9 := Lib.hid hb; have HHP := Lib.hid hhp; have HXG := Lib.hid hxg; have HL := Lib.hid hl; have HXS := Lib.hid (And.intro hXs hYs)
  clear hx hy ha hb hhp hpre hxl hyl hxx hyy haa hbb hX hY hA hB hkl hnm hxg hl hXl hYl hXs hYs
  go_enter Try.func4, Try.ntmps4
  go_wp2_with fail
  refine (awake06_any _).mono ?_
  rintro e W1 ⟨rfl, HB1⟩
  have hs1 := HB1.size
  go_wp2_with fail
  refine (HNW.out _).mono ?_
  rintro e W2 ⟨rfl, hb⟩
  have HB2 := Below.thn HB1 hb hs1
  have hs2 := HB2.size
  clear hb HB1 hs1
  go_upto_region 6 with (refine wpList_put rfl 29 _ _ rfl W2.heap.size _ _ 29 rfl rfl (Blk.new _ _ _) (by rw [hKs]; kernel_rfl) (hKs.trans zkey_size.symm) hone (fun W3 hp3 K3 => ?_))
  (try simp only [Act.put])
  obtain ⟨b, hb⟩ : ∃ b, W2.heap.size = b := ⟨_, rfl⟩
  have HB3 : Below w.heap.size w W3 := hp3.below (by omega) (by (repeat (first | (with_reducible assumption) | (with_reducible exact Below.refl _ _) | with_reducible apply bl_drewN | with_reducible apply Below.drew | (with_reducible apply bl_alloc; focus (first | (simp; done) | (simp; omega) | omega)) | (with_reducible apply bl_set; focus (first | (simp; done) | (simp; omega) | omega)))))
  rw [hb] at K3 hs2 ⊢
  clear hp3 hb HB2
  go_wp2_with (first | (refine wpList_load_row rfl 29 _ rfl b rfl 29 _ (0, 0) _ K3.out Try.underlying29 rfl (by rw [hKs]; kernel_rfl) ?_))
  refine (hA9.out _).mono ?_
  rintro e W4 ⟨rfl, hb⟩
  have HB4 := Below.thn HB3 hb HB3.size
  have K4 := K3.below hb
  clear hb HB3 K3
  go_wp2_with (first | (refine wpList_load_row rfl 29 _ rfl b rfl 29 _ (0, 0) _ K4.out Try.underlying29 rfl (by rw [hKs]; kernel_rfl) ?_))
  refine (hB9.out _).mono ?_
  rintro e W5 ⟨rfl, hb⟩
  have HB5 := Below.thn HB4 hb HB4.size
  have K5 := K4.below hb
  clear hb HB4 K4
  go_wp2_with fail
  refine wp_region_typed 8 (fun k => match k with  | _ => []) (fun k => match k with  | _ => false) (fun k => match k with | 0 => some ⟨(Unit), (()), (fun _ => .agg K), (fun _ _ => True), (fun _ _ _ h _ => h)⟩ | 3 => some ⟨(Unit), (()), (fun _ => .string X), (fun _ _ => True), (fun _ _ _ h _ => h)⟩ | 4 => some ⟨(Unit), (()), (fun _ => .agg K), (fun _ _ => True), (fun _ _ _ h _ => h)⟩ | 7 => some ⟨(Unit), (()), (fun _ => .string Y), (fun _ _ => True), (fun _ _ _ h _ => h)⟩ | _ => none) (by kernel_rfl) (by kernel_rfl) (by intro d0 v0 c0 a0 w0 h0; first | (cases d0 <;> exact h0) | exact hP _ _ _ _ _ h0) ?_
  rw [show List.range 8 = [0, 1, 2, 3, 4, 5, 6, 7] from rfl]
  refine ty_rel rfl rfl _ rfl rfl (fun wq hq hk => ?_) ?_
  · exact rel_load_blk _ _ rfl b rfl K _ (K5.gr hq) _ Try.underlying29 rfl (by rw [hKs]; kernel_rfl) (.mk (Below.refl _ _) () rfl trivial)
  rintro ⟨⟩
  (try simp only [Act.put, List.setIfInBounds_toArray, List.set_cons_zero, List.set_cons_succ])
  first
    | (refine ty_skip rfl rfl ?_; (try simp only [Act.put, List.setIfInBounds_toArray, List.set_cons_zero, List.set_cons_succ]))
    | (refine ty_pure rfl rfl rfl rfl ?_; apply Exists.intro; refine ⟨fun wq hq hk => ?_, ?_⟩
       · simp only [pureAt]; go_simp; (try simp only [↓IntWalk.iteOmega]); (try go_bits); (try simp only [pureUpon]); (first | done | exact ⟨rfl, rfl⟩ | exact ⟨trivial, rfl⟩ | rfl)
       (try simp only [Act.put, List.setIfInBounds_toArray, List.set_cons_zero, List.set_cons_succ]))
  first
    | (refine ty_skip rfl rfl ?_; (try simp only [Act.put, List.setIfInBounds_toArray, List.set_cons_zero, List.set_cons_succ]))
    | (refine ty_pure rfl rfl rfl rfl ?_; apply Exists.intro; refine ⟨fun wq hq hk => ?_, ?_⟩
       · simp only [pureAt]; go_simp; (try simp only [↓IntWalk.iteOmega]); (try go_bits); (try simp only [pureUpon]); (first | done | exact ⟨rfl, rfl⟩ | exact ⟨trivial, rfl⟩ | rfl)
       (try simp only [Act.put, List.setIfInBounds_toArray, List.set_cons_zero, List.set_cons_succ]))
  refine ty_rel rfl rfl _ rfl rfl (fun wq hq hk => ?_) ?_
  · simp only [relAt]; go_simp; (try simp only [relUpon]); (go_at_call 19; refine (hX9.out _).mono ?_; rintro e w9 ⟨rfl, hb9⟩; exact ⟨_, rfl, .mk hb9 () rfl trivial⟩)
  rintro ⟨⟩
  (try simp only [Act.put, List.setIfInBounds_toArray, List.set_cons_zero, List.set_cons_succ])
  refine ty_rel rfl rfl _ rfl rfl (fun wq hq hk => ?_) ?_
  · exact rel_load_blk _ _ rfl b rfl K _ (K5.gr hq) _ Try.underlying29 rfl (by rw [hKs]; kernel_rfl) (.mk (Below.refl _ _) () rfl trivial)
  rintro ⟨⟩
  (try simp only [Act.put, List.setIfInBounds_toArray, List.set_cons_zero, List.set_cons_succ])
  first
    | (refine ty_skip rfl rfl ?_; (try simp only [Act.put, List.setIfInBounds_toArray, List.set_cons_zero, List.set_cons_succ]))
    | (refine ty_pure rfl rfl rfl rfl ?_; apply Exists.intro; refine ⟨fun wq hq hk => ?_, ?_⟩
       · simp only [pureAt]; go_simp; (try simp only [↓IntWalk.iteOmega]); (try go_bits); (try simp only [pureUpon]); (first | done | exact ⟨rfl, rfl⟩ | exact ⟨trivial, rfl⟩ | rfl)
       (try simp only [Act.put, List.setIfInBounds_toArray, List.set_cons_zero, List.set_cons_succ]))
  first
    | (refine ty_skip rfl rfl ?_; (try simp only [Act.put, List.setIfInBounds_toArray, List.set_cons_zero, List.set_cons_succ]))
    | (refine ty_pure rfl rfl rfl rfl ?_; apply Exists.intro; refine ⟨fun wq hq hk => ?_, ?_⟩
       · simp only [pureAt]; go_simp; (try simp only [↓IntWalk.iteOmega]); (try go_bits); (try simp only [pureUpon]); (first | done | exact ⟨rfl, rfl⟩ | exact ⟨trivial, rfl⟩ | rfl)
       (try simp only [Act.put, List.setIfInBounds_toArray, List.set_cons_zero, List.set_cons_succ]))
  refine ty_rel rfl rfl _ rfl rfl (fun wq hq hk => ?_) ?_
  · simp only [relAt]; go_simp; (try simp only [relUpon]); (go_at_call 19; refine (hY9.out _).mono ?_; rintro e w9 ⟨rfl, hb9⟩; exact ⟨_, rfl, .mk hb9 () rfl trivial⟩)
  rintro ⟨⟩
  (try simp only [Act.put, List.setIfInBounds_toArray, List.set_cons_zero, List.set_cons_succ])
  refine ty_nil ?_
  simp only [List.drop_succ_cons, List.drop_zero]
  intro W6 hw6 hΓ
  have HB6 := Below.thn HB5 hw6.out HB5.size
  clear hΓ hw6 HB5 K5
  go_wp2_with fail
  refine (HHP.out _).mono ?_
  rintro e W7 ⟨rfl, rfl⟩
  go_wp2_with fail
  go_loopg [90] l (fun gk t90 wr => ∃ i : Nat, i + gk = l ∧ t90 = .int .i64 (i : Int) ∧ Below w.heap.size w wr)
  case atStart => exact ⟨0, by omega, rfl, HB6⟩
  case round =>
    clear HB6
    obtain ⟨i, hi, rfl, HB6⟩ := hrel
    cases gk with
    | zero =>
      obtain rfl : i = l := by omega
      have hnn : ¬ (i : Int) < (i : Int) := by omega
      clear hi
      go_wp2_with fail
      go_ret
      exact ⟨rfl, HB6⟩
    | succ g =>
      have hil : (i : Int) < (l : Int) := by omega
      have q1 : i < s.size := by have := HL.out; omega
      have q2 : i < t.size := by have := HL.out; omega
      have q3 : i < X.size := by rw [HXS.out.1]; exact q1
      have q4 : i < Y.size := by rw [HXS.out.2]; exact q2
      have r1 : (i : Int) < (s.size : Int) := by omega
      have r2 : (i : Int) < (t.size : Int) := by omega
      have hg := HXG.out i q1 q2
      obtain ⟨a1, h1⟩ : ∃ a, s.data.toList.getD i 0 = a := ⟨_, rfl⟩
      obtain ⟨a2, h2⟩ : ∃ a, t.data.toList.getD i 0 = a := ⟨_, rfl⟩
      obtain ⟨a3, h3⟩ : ∃ a, X.data.toList.getD i 0 = a := ⟨_, rfl⟩
      obtain ⟨a4, h4⟩ : ∃ a, Y.data.toList.getD i 0 = a := ⟨_, rfl⟩
      rw [h1, h2, h3, h4] at hg
      have b1 := ba_idx s i q1 a1 h1
      have b2 := ba_idx t i q2 a2 h2
      have b3 := ba_idx X i q3 a3 h3
      have b4 := ba_idx Y i q4 a4 h4
      have e1 := sum_xor8 a3 a4
      have e2 := sum_xor8 a1 a2
      rw [hg] at e1
      have HI := Lib.hid hi
      clear h1 h2 h3 h4 hg hi
      go_wp2_with fail
      refine wp_region_gr (by kernel_rfl) (by kernel_rfl) ?_
      repeat (first
        | go_big_quiet_skip
        | ((refine BigFrame.wpQuiet_want rfl (fun K hK => quiet_mk ?_)); apply Exists.intro; refine ⟨fun wq hq => ?_, hK _ ?_⟩
           · go_simp; (try simp only [↓IntWalk.iteOmega]); (try go_bits)
             first | done | rfl | exact ⟨rfl, rfl⟩ | exact ⟨trivial, rfl⟩
           clear hK K; (try simp only [Act.put, List.setIfInBounds_toArray, List.set_cons_zero, List.set_cons_succ])))
      refine wpQuiet_nil ?_
      intro W8 hw8
      have HB8 := Below.thn HB6 hw8.out HB6.size
      clear hw8 HB6 e1 e2
      simp only [Exit.then]
      apply_assumption
      go_wp2_with fail
      go_roundg g
      case rel => exact ⟨i + 1, by have := HI.out; omega, by simp, HB8⟩
      case measure => omega
set_option maxHeartbeats 4000000 in
set_option maxRecDepth 20000 in
theorem longer_bad (key s t : ByteArray) (nonce n m : Nat) (hk : key.size ≠ 16) (w : World) :
    Calls Try.prog 4 #[.string key, .int .u64 (nonce : Int), .int .u8 (n : Int), .int .u8 (m : Int), .string s, .string t] w fun e w' => e = .returned (.bool true) ∧ Below w.heap.size w w' := by
  go_enter Try.func4, Try.ntmps4
  go_wp2_with fail
  refine (awake06_any _).mono ?_
  rintro e W1 ⟨rfl, HB1⟩
  have hs1 := HB1.size
  go_wp2_with fail
  refine (new_bad key _ hk).mono ?_
  rintro e W2 ⟨rfl, hb⟩
  have HB2 := Below.thn HB1 hb hs1
  have hs2 := HB2.size
  clear hb HB1 hs1
  go_wp2_with (refine wpList_put rfl 29 _ _ rfl W2.heap.size _ _ 29 rfl rfl (Blk.new _ _ _) (by rw [zkey_size]; kernel_rfl) rfl zkey_one (fun W3 hp3 K3 => ?_))
  (try simp only [Act.put])
  go_ret
  exact ⟨rfl, hp3.below (by omega) (by (repeat (first | (with_reducible assumption) | (with_reducible exact Below.refl _ _) | with_reducible apply bl_drewN | with_reducible apply Below.drew | (with_reducible apply bl_alloc; focus (first | (simp; done) | (simp; omega) | omega)) | (with_reducible apply bl_set; focus (first | (simp; done) | (simp; omega) | omega)))))⟩
set_option maxHeartbeats 4000000 in
set_option maxRecDepth 20000 in
theorem longer_long (key s t : ByteArray) (nonce n m : Nat) (hk : key.size = 16) (hl : (100 : Int) < max (s.size : Int) t.size) (w : World) :
    Calls Try.prog 4 #[.string key, .int .u64 (nonce : Int), .int .u8 (n : Int), .int .u8 (m : Int), .string s, .string t] w fun e w' => e = .returned (.bool true) ∧ Below w.heap.size w w' := by
  obtain ⟨KL, hkl⟩ : ∃ k, key.data.toList = k := ⟨_, rfl⟩
  have hKL : KL.length = 16 := by rw [← hkl]; exact hk
  have hone := kcells_one (keysN KL 10)
  have hKs := keysN_size KL hKL
  have hnw := fun W => new_any key W hk
  rw [hkl] at hnw
  obtain ⟨K, hK⟩ : ∃ K, (kcells (keysN KL 10)).toArray = K := ⟨_, rfl⟩
  rw [hK] at hnw hone hKs
  have HNW := Lib.hid hnw
  clear hnw hK
  go_enter Try.func4, Try.ntmps4
  go_wp2_with fail
  refine (awake06_any _).mono ?_
  rintro e W1 ⟨rfl, HB1⟩
  have hs1 := HB1.size
  go_wp2_with fail
  refine (HNW.out _).mono ?_
  rintro e W2 ⟨rfl, hb⟩
  have HB2 := Below.thn HB1 hb hs1
  have hs2 := HB2.size
  clear hb HB1 hs1
  go_upto_region 4 with (refine wpList_put rfl 29 _ _ rfl W2.heap.size _ _ 29 rfl rfl (Blk.new _ _ _) (by rw [hKs]; kernel_rfl) (hKs.trans zkey_size.symm) hone (fun W3 hp3 K3 => ?_))
  (try simp only [Act.put])
  obtain ⟨b, hb⟩ : ∃ b, W2.heap.size = b := ⟨_, rfl⟩
  have HB3 : Below w.heap.size w W3 := hp3.below (by omega) (by (repeat (first | (with_reducible assumption) | (with_reducible exact Below.refl _ _) | with_reducible apply bl_drewN | with_reducible apply Below.drew | (with_reducible apply bl_alloc; focus (first | (simp; done) | (simp; omega) | omega)) | (with_reducible apply bl_set; focus (first | (simp; done) | (simp; omega) | omega)))))
  rw [hb] at K3 hs2 ⊢
  clear hp3 hb HB2
  go_wp2_with fail
  go_ret
  exact ⟨rfl, HB3⟩
set_option maxHeartbeats 4000000 in
set_option maxRecDepth 20000 in
theorem parts_long (key s t : ByteArray) (nonce : Nat) (hk : key.size ≠ 16 ∨ key.size = 16 ∧ (100 : Int) < max (s.size : Int) t.size) (w : World) :
    Calls Try.prog 6 #[.string key, .int .u64 (nonce : Int), .string s, .string t] w fun e w' => e = .returned (.bool true) ∧ Below w.heap.size w w' := by
  rcases hk with hk | ⟨hk, hl⟩
  · have hki : ¬ (key.size : Int) = 16 := by omega
    go_enter Try.func6, Try.ntmps6
    go_wp2_with fail
    refine (awake06_any _).mono ?_
    rintro e W1 ⟨rfl, HB1⟩
    have hs1 := HB1.size
    go_wp2_with fail
    go_ret
    exact ⟨rfl, HB1⟩
  · have hki : (key.size : Int) = 16 := by omega
    go_enter Try.func6, Try.ntmps6
    go_wp2_with fail
    refine (awake06_any _).mono ?_
    rintro e W1 ⟨rfl, HB1⟩
    have hs1 := HB1.size
    go_wp2_with fail
    go_ret
    exact ⟨rfl, HB1⟩
end Go.Proofs.Ytkblkdojmfgneaa
