/- CtrStreams: the walk. -/
import Derived.Test.YtkblkdojmfgneaaRCtr3
namespace Go.Proofs.Ytkblkdojmfgneaa
open Go.RowKit

set_option maxHeartbeats 8000000 in
set_option maxRecDepth 20000 in
theorem streams_walk (key s : ByteArray) (nonce co n : Nat) (hnon : nonce ≤ 18446744073709551615) (hco : co ≤ 18446744073709551615) (hk : key.size = 16) (hn : n ≤ 100) (hs : s.size ≤ 100) (w : World) :
    Calls Try.prog 3 #[.string key, .int .u64 (nonce : Int), .int .u64 (co : Int), .int .i64 (n : Int), .string s] w fun e w' => e = .returned (.bool true) ∧ Below w.heap.size w w' := by
  obtain ⟨KL, hkl⟩ : ∃ k, key.data.toList = k := ⟨_, rfl⟩
  have g1 : ¬ (100 : Int) < (n : Int) := by omega
  have g2 : ¬ (100 : Int) < (s.size : Int) := by omega
  have g3 : ¬ (n : Int) < 0 := by omega
  have g4 : ¬ (65536 : Int) < (n : Int) := by omega
  have rs := fun W => rstream_any key KL hkl hk nonce n hnon (by omega) W
  have rt := fun W => rturn_any key s KL hkl hk nonce hnon (by omega) W
  have hKL : KL.length = 16 := by rw [← hkl]; exact hk
  have hone := kcells_one (keysN KL 10)
  have hKs := keysN_size KL hKL
  have hnw := fun W => new_any key W hk
  rw [hkl] at hnw
  have hst := fun (m : Nat) (hm : m ≤ 65536) W => stream_any KL nonce m hKL hnon hm W
  have htu := fun (s : ByteArray) (hs : s.size ≤ 100000) W => cturn_any KL nonce s hKL hnon hs W
  have hen := fun (l : List UInt8) (hl : l.length = 16) W => encrypt_any KL l hKL hl W
  obtain ⟨K, hK⟩ : ∃ K, (kcells (keysN KL 10)).toArray = K := ⟨_, rfl⟩
  rw [hK] at hnw hst htu hen hone hKs
  have HNW := Lib.hid hnw; have HST := Lib.hid hst; have HTU := Lib.hid htu; have HEN := Lib.hid hen
  clear hnw hst htu hen hK
  have hba := ba_list (putB nonce 8) (putB co 8)
  rw [show putB nonce 8 ++ putB co 8 = ctrB nonce co from rfl] at hba
  have p1 := fun W => rput_any nonce 8 hnon (by decide) W
  have p2 := fun W => rput_any co 8 hco (by decide) W
  have hcbl := ctrB_len nonce co
  have bl := fun W => block_any nonce co hnon hco W
  obtain ⟨CB, hCB⟩ : ∃ c, ctrB nonce co = c := ⟨_, rfl⟩
  rw [hCB] at hba hcbl bl
  have hq1 := putB_len nonce 8; have hq2 := putB_len co 8
  obtain ⟨Q1, hQ1⟩ : ∃ q : ByteArray, (⟨(putB nonce 8).toArray⟩ : ByteArray) = q := ⟨_, rfl⟩
  obtain ⟨Q2, hQ2⟩ : ∃ q : ByteArray, (⟨(putB co 8).toArray⟩ : ByteArray) = q := ⟨_, rfl⟩
  obtain ⟨CS, hCS⟩ : ∃ q : ByteArray, (⟨CB.toArray⟩ : ByteArray) = q := ⟨_, rfl⟩
  rw [hQ1, hQ2, hCS] at hba
  have hq1s : Q1.size = 8 := by rw [← hQ1, ba_size]; simpa using hq1
  have hq2s : Q2.size = 8 := by rw [← hQ2, ba_size]; simpa using hq2
  rw [hQ1] at p1; rw [hQ2] at p2
  have hcbs := bcells_len CB hcbl
  have P1 := Lib.hid p1; have P2 := Lib.hid p2; have HCS := Lib.hid hCS; have BL := Lib.hid bl
  clear p1 p2 bl hCB hQ1 hQ2 hCS hq1 hq2
  have st := HST.out n (by omega)
  have tu := HTU.out s (by omega)
  have htl := turnS_len KL nonce s.data.toList hKL
  have htw := turnS_twice KL nonce s.data.toList hKL
  obtain ⟨t, ht⟩ : ∃ t, turnS KL nonce s.data.toList = t := ⟨_, rfl⟩
  rw [ht] at rt tu htl htw
  obtain ⟨A, hA⟩ : ∃ q : ByteArray, (⟨(streamL KL nonce n).toArray⟩ : ByteArray) = q := ⟨_, rfl⟩
  rw [hA] at rs st
  obtain ⟨T, hT⟩ : ∃ q : ByteArray, (⟨t.toArray⟩ : ByteArray) = q := ⟨_, rfl⟩
  rw [hT] at rt tu
  have hTs : T.size = s.size := by rw [← hT, ba_size]; simpa using htl
  have tu2 := HTU.out T (by omega)
  have hTd : T.data.toList = t := by rw [← hT]
  rw [hTd, htw] at tu2
  have hse : (⟨s.data.toList.toArray⟩ : ByteArray) = s := rfl
  rw [hse] at tu2
  have RS := Lib.hid rs; have RT := Lib.hid rt; have ST := Lib.hid st; have TU := Lib.hid tu; have TU2 := Lib.hid tu2
  clear rs rt st tu tu2 htl htw ht hA hT hTs hTd hse hkl
  go_enter Try.func3, Try.ntmps3
  go_wp2_with fail
  refine (awake06_any _).mono ?_
  rintro e W1 ⟨rfl, HB1⟩
  have hs1 := HB1.size
  go_wp2_with fail
  refine (HNW.out _).mono ?_
  rintro e W2 ⟨rfl, hb⟩
  have HB2 := Below.thn HB1 hb hs1
  have hs2 := HB2.size
  clear hb HB1 hs1
  go_upto_region 6 with (refine wpList_put rfl 29 _ _ rfl W2.heap.size _ _ 29 rfl rfl (Blk.new _ _ _) (by rw [hKs]; kernel_rfl) (hKs.trans zkey_size.symm) hone (fun W3 hp3 K3 => ?_))
  (try simp only [Act.put])
  obtain ⟨b, hb⟩ : ∃ b, W2.heap.size = b := ⟨_, rfl⟩
  have HB3 : Below w.heap.size w W3 := hp3.below (by omega) (by (repeat (first | (with_reducible assumption) | (with_reducible exact Below.refl _ _) | with_reducible apply bl_drewN | with_reducible apply Below.drew | (with_reducible apply bl_alloc; focus (first | (simp; done) | (simp; omega) | omega)) | (with_reducible apply bl_set; focus (first | (simp; done) | (simp; omega) | omega)))))
  rw [hb] at K3 hs2 ⊢
  clear hp3 hb HB2
  go_wp2_with fail
  refine (BL.out _).mono ?_
  rintro e W4 ⟨rfl, hb4⟩
  have HB4 := Below.thn HB3 hb4 HB3.size
  have K4 := K3.below hb4
  have hs4 := HB4.size
  have hkl4 := K4.lt
  clear hb4 HB3 K3
  go_upto_region 7 with (refine wpList_put rfl 25 _ _ rfl W4.heap.size _ (bcells CB) 25 rfl rfl (Blk.new _ _ _) (by rw [hcbs]; kernel_rfl) (hcbs.trans rfl) (bcells_one CB) (fun W5 hp5 X5 => ?_))
  (try simp only [Act.put])
  have L5 : Below W4.heap.size W4 W5 := hp5.below (Nat.le_refl _) (by (repeat (first | (with_reducible assumption) | (with_reducible exact Below.refl _ _) | with_reducible apply bl_drewN | with_reducible apply Below.drew | (with_reducible apply bl_alloc; focus (first | (simp; done) | (simp; omega) | omega)) | (with_reducible apply bl_set; focus (first | (simp; done) | (simp; omega) | omega)))))
  have HB5 := Below.via HB4 L5 hs4
  have K5 : Blk W5 b K 29 := ⟨(L5.block b hkl4).trans K4.out⟩
  obtain ⟨xb, hxb⟩ : ∃ x, W4.heap.size = x := ⟨_, rfl⟩
  rw [hxb] at X5 ⊢
  clear HB4 K4 hp5 L5 hxb hs4 hkl4
  go_wp2_with (first | (refine wpList_load_row rfl 29 _ rfl b rfl 29 _ (0, 0) _ K5.out Try.underlying29 rfl (by rw [hKs]; kernel_rfl) ?_))
  refine (ST.out _).mono ?_
  rintro e W6 ⟨rfl, hb6⟩
  have HB6 := Below.thn HB5 hb6 HB5.size
  have K6 := K5.below hb6
  have X6 := X5.below hb6
  clear hb6 HB5 K5 X5
  have hcv : ∀ W, Blk W xb (bcells CB) 25 → (convert 36 9 (.slice (some ⟨xb, 0, none⟩) 16 16)).run Try.prog W = .ok (.string CS) W := fun W BX => by
    have h5 := Lib.run_convert_whole (P := Try.prog) W 36 5 9 Try.underlying36 Try.underlying5 Try.underlying9 xb 0 ⟨CB.toArray⟩ (row_bytes (blk_row BX)) 16
    rw [show (⟨CB.toArray⟩ : ByteArray).size = 16 by rw [ba_size]; simpa using hcbl, HCS.out] at h5
    exact h5
  have HCV := Lib.hid hcv
  clear hcv
  go_wp2_with fail
  refine wp_region_typed 7 (fun k => match k with  | _ => []) (fun k => match k with  | _ => false) (fun k => match k with | 1 => some ⟨(Unit), (()), (fun _ => .string CS), (fun _ _ => True), (fun _ _ _ h _ => h)⟩ | 3 => some ⟨(Unit), (()), (fun _ => .string Q1), (fun _ _ => True), (fun _ _ _ h _ => h)⟩ | 5 => some ⟨(Unit), (()), (fun _ => .string Q2), (fun _ _ => True), (fun _ _ _ h _ => h)⟩ | _ => none) (by kernel_rfl) (by kernel_rfl) (by intro d0 v0 c0 a0 w0 h0; first | (cases d0 <;> exact h0) | exact hP _ _ _ _ _ h0) ?_
  rw [show List.range 7 = [0, 1, 2, 3, 4, 5, 6] from rfl]
  first
    | (refine ty_skip rfl rfl ?_; (try simp only [Act.put, List.setIfInBounds_toArray, List.set_cons_zero, List.set_cons_succ]))
    | (refine ty_pure rfl rfl rfl rfl ?_; apply Exists.intro; refine ⟨fun wq hq hk => ?_, ?_⟩
       · simp only [pureAt]; go_simp; (try simp only [↓IntWalk.iteOmega]); (try go_bits); (try simp only [pureUpon]); (first | done | exact ⟨rfl, rfl⟩ | exact ⟨trivial, rfl⟩ | rfl)
       (try simp only [Act.put, List.setIfInBounds_toArray, List.set_cons_zero, List.set_cons_succ]))
  refine ty_rel rfl rfl _ rfl rfl (fun wq hq hk => ?_) ?_
  · have hc5 := HCV.out wq (X6.gr hq); simp only [relAt]; go_simp; (try simp only [relUpon]); exact .mk (Below.refl _ _) () rfl trivial
  rintro ⟨⟩
  (try simp only [Act.put, List.setIfInBounds_toArray, List.set_cons_zero, List.set_cons_succ])
  first
    | (refine ty_skip rfl rfl ?_; (try simp only [Act.put, List.setIfInBounds_toArray, List.set_cons_zero, List.set_cons_succ]))
    | (refine ty_pure rfl rfl rfl rfl ?_; apply Exists.intro; refine ⟨fun wq hq hk => ?_, ?_⟩
       · simp only [pureAt]; go_simp; (try simp only [↓IntWalk.iteOmega]); (try go_bits); (try simp only [pureUpon]); (first | done | exact ⟨rfl, rfl⟩ | exact ⟨trivial, rfl⟩ | rfl)
       (try simp only [Act.put, List.setIfInBounds_toArray, List.set_cons_zero, List.set_cons_succ]))
  refine ty_rel rfl rfl _ rfl rfl (fun wq hq hk => ?_) ?_
  · simp only [relAt]; go_simp; (try simp only [relUpon]); (go_at_call 18; refine (P1.out _).mono ?_; rintro e w9 ⟨rfl, hb9⟩; exact ⟨_, rfl, .mk hb9 () rfl trivial⟩)
  rintro ⟨⟩
  (try simp only [Act.put, List.setIfInBounds_toArray, List.set_cons_zero, List.set_cons_succ])
  first
    | (refine ty_skip rfl rfl ?_; (try simp only [Act.put, List.setIfInBounds_toArray, List.set_cons_zero, List.set_cons_succ]))
    | (refine ty_pure rfl rfl rfl rfl ?_; apply Exists.intro; refine ⟨fun wq hq hk => ?_, ?_⟩
       · simp only [pureAt]; go_simp; (try simp only [↓IntWalk.iteOmega]); (try go_bits); (try simp only [pureUpon]); (first | done | exact ⟨rfl, rfl⟩ | exact ⟨trivial, rfl⟩ | rfl)
       (try simp only [Act.put, List.setIfInBounds_toArray, List.set_cons_zero, List.set_cons_succ]))
  refine ty_rel rfl rfl _ rfl rfl (fun wq hq hk => ?_) ?_
  · simp only [relAt]; go_simp; (try simp only [relUpon]); (go_at_call 18; refine (P2.out _).mono ?_; rintro e w9 ⟨rfl, hb9⟩; exact ⟨_, rfl, .mk hb9 () rfl trivial⟩)
  rintro ⟨⟩
  (try simp only [Act.put, List.setIfInBounds_toArray, List.set_cons_zero, List.set_cons_succ])
  first
    | (refine ty_skip rfl rfl ?_; (try simp only [Act.put, List.setIfInBounds_toArray, List.set_cons_zero, List.set_cons_succ]))
    | (refine ty_pure rfl rfl rfl rfl ?_; apply Exists.intro; refine ⟨fun wq hq hk => ?_, ?_⟩
       · simp only [pureAt]; go_simp; (try simp only [↓IntWalk.iteOmega]); (try go_bits); (try simp only [pureUpon]); (first | done | exact ⟨rfl, rfl⟩ | exact ⟨trivial, rfl⟩ | rfl)
       (try simp only [Act.put, List.setIfInBounds_toArray, List.set_cons_zero, List.set_cons_succ]))
  refine ty_nil ?_
  simp only [List.drop_succ_cons, List.drop_zero]
  intro W7 hw7 hΓ
  have HB7 := Below.thn HB6 hw7.out HB6.size
  have K7 := K6.gr hw7
  clear hΓ hw7 HB6 K6 X6
  go_wp2_with fail
  (refine wp_load_blk _ _ rfl b rfl K _ K7 _ Try.underlying29 rfl (by rw [hKs]; kernel_rfl) ?_)
  apply_assumption
  (try simp only [Act.put])
  go_wp2_with fail
  refine (TU.out _).mono ?_
  rintro e W8 ⟨rfl, hb⟩
  have HB8 := Below.thn HB7 hb HB7.size
  have K8 := K7.below hb
  clear hb HB7 K7
  go_wp2_with fail
  refine (RS.out _).mono ?_
  rintro e W9 ⟨rfl, hb⟩
  have HB9 := Below.thn HB8 hb HB8.size
  have K9 := K8.below hb
  clear hb HB8 K8
  go_wp2_with fail
  refine (RT.out _).mono ?_
  rintro e W10 ⟨rfl, hb⟩
  have HB10 := Below.thn HB9 hb HB9.size
  have K10 := K9.below hb
  clear hb HB9 K9
  go_wp2_with fail
  (refine wp_load_blk _ _ rfl b rfl K _ K10 _ Try.underlying29 rfl (by rw [hKs]; kernel_rfl) ?_)
  apply_assumption
  (try simp only [Act.put])
  go_wp2_with fail
  refine (TU2.out _).mono ?_
  rintro e W11 ⟨rfl, hb⟩
  have HB11 := Below.thn HB10 hb HB10.size
  clear hb HB10 K10
  go_wp2_with fail
  go_ret
  exact ⟨rfl, HB11⟩
set_option maxHeartbeats 8000000 in
set_option maxRecDepth 20000 in
theorem streams_range (key s : ByteArray) (nonce co : Nat) (n : Int) (hnon : nonce ≤ 18446744073709551615) (hco : co ≤ 18446744073709551615) (hk : key.size = 16) (hn : n < 0 ∨ 65536 < n) (hs : s.size ≤ 100) (w : World) :
    Calls Try.prog 3 #[.string key, .int .u64 (nonce : Int), .int .u64 (co : Int), .int .i64 n, .string s] w fun e w' => e = .returned (.bool true) ∧ Below w.heap.size w w' := by
  obtain ⟨KL, hkl⟩ : ∃ k, key.data.toList = k := ⟨_, rfl⟩
  have g2 : ¬ (100 : Int) < (s.size : Int) := by omega
  have hKL : KL.length = 16 := by rw [← hkl]; exact hk
  have hone := kcells_one (keysN KL 10)
  have hKs := keysN_size KL hKL
  have hnw := fun W => new_any key W hk
  rw [hkl] at hnw
  have hst := fun (m : Nat) (hm : m ≤ 65536) W => stream_any KL nonce m hKL hnon hm W
  have htu := fun (s : ByteArray) (hs : s.size ≤ 100000) W => cturn_any KL nonce s hKL hnon hs W
  have hen := fun (l : List UInt8) (hl : l.length = 16) W => encrypt_any KL l hKL hl W
  obtain ⟨K, hK⟩ : ∃ K, (kcells (keysN KL 10)).toArray = K := ⟨_, rfl⟩
  rw [hK] at hnw hst htu hen hone hKs
  have HNW := Lib.hid hnw; have HST := Lib.hid hst; have HTU := Lib.hid htu; have HEN := Lib.hid hen
  clear hnw hst htu hen hK
  have hba := ba_list (putB nonce 8) (putB co 8)
  rw [show putB nonce 8 ++ putB co 8 = ctrB nonce co from rfl] at hba
  have p1 := fun W => rput_any nonce 8 hnon (by decide) W
  have p2 := fun W => rput_any co 8 hco (by decide) W
  have hcbl := ctrB_len nonce co
  have bl := fun W => block_any nonce co hnon hco W
  obtain ⟨CB, hCB⟩ : ∃ c, ctrB nonce co = c := ⟨_, rfl⟩
  rw [hCB] at hba hcbl bl
  have hq1 := putB_len nonce 8; have hq2 := putB_len co 8
  obtain ⟨Q1, hQ1⟩ : ∃ q : ByteArray, (⟨(putB nonce 8).toArray⟩ : ByteArray) = q := ⟨_, rfl⟩
  obtain ⟨Q2, hQ2⟩ : ∃ q : ByteArray, (⟨(putB co 8).toArray⟩ : ByteArray) = q := ⟨_, rfl⟩
  obtain ⟨CS, hCS⟩ : ∃ q : ByteArray, (⟨CB.toArray⟩ : ByteArray) = q := ⟨_, rfl⟩
  rw [hQ1, hQ2, hCS] at hba
  have hq1s : Q1.size = 8 := by rw [← hQ1, ba_size]; simpa using hq1
  have hq2s : Q2.size = 8 := by rw [← hQ2, ba_size]; simpa using hq2
  rw [hQ1] at p1; rw [hQ2] at p2
  have hcbs := bcells_len CB hcbl
  have P1 := Lib.hid p1; have P2 := Lib.hid p2; have HCS := Lib.hid hCS; have BL := Lib.hid bl
  clear p1 p2 bl hCB hQ1 hQ2 hCS hq1 hq2
  have st := fun W => stream_bad K (nonce : Int) n hn W
  have ST := Lib.hid st
  clear st hkl
  rcases hn with g3 | g4
  · have g1 : ¬ (100 : Int) < n := by omega
    go_enter Try.func3, Try.ntmps3
    go_wp2_with fail
    refine (awake06_any _).mono ?_
    rintro e W1 ⟨rfl, HB1⟩
    have hs1 := HB1.size
    go_wp2_with fail
    refine (HNW.out _).mono ?_
    rintro e W2 ⟨rfl, hb⟩
    have HB2 := Below.thn HB1 hb hs1
    have hs2 := HB2.size
    clear hb HB1 hs1
    go_upto_region 6 with (refine wpList_put rfl 29 _ _ rfl W2.heap.size _ _ 29 rfl rfl (Blk.new _ _ _) (by rw [hKs]; kernel_rfl) (hKs.trans zkey_size.symm) hone (fun W3 hp3 K3 => ?_))
    (try simp only [Act.put])
    obtain ⟨b, hb⟩ : ∃ b, W2.heap.size = b := ⟨_, rfl⟩
    have HB3 : Below w.heap.size w W3 := hp3.below (by omega) (by (repeat (first | (with_reducible assumption) | (with_reducible exact Below.refl _ _) | with_reducible apply bl_drewN | with_reducible apply Below.drew | (with_reducible apply bl_alloc; focus (first | (simp; done) | (simp; omega) | omega)) | (with_reducible apply bl_set; focus (first | (simp; done) | (simp; omega) | omega)))))
    rw [hb] at K3 hs2 ⊢
    clear hp3 hb HB2
    go_wp2_with fail
    refine (BL.out _).mono ?_
    rintro e W4 ⟨rfl, hb4⟩
    have HB4 := Below.thn HB3 hb4 HB3.size
    have K4 := K3.below hb4
    have hs4 := HB4.size
    have hkl4 := K4.lt
    clear hb4 HB3 K3
    go_upto_region 7 with (refine wpList_put rfl 25 _ _ rfl W4.heap.size _ (bcells CB) 25 rfl rfl (Blk.new _ _ _) (by rw [hcbs]; kernel_rfl) (hcbs.trans rfl) (bcells_one CB) (fun W5 hp5 X5 => ?_))
    (try simp only [Act.put])
    have L5 : Below W4.heap.size W4 W5 := hp5.below (Nat.le_refl _) (by (repeat (first | (with_reducible assumption) | (with_reducible exact Below.refl _ _) | with_reducible apply bl_drewN | with_reducible apply Below.drew | (with_reducible apply bl_alloc; focus (first | (simp; done) | (simp; omega) | omega)) | (with_reducible apply bl_set; focus (first | (simp; done) | (simp; omega) | omega)))))
    have HB5 := Below.via HB4 L5 hs4
    have K5 : Blk W5 b K 29 := ⟨(L5.block b hkl4).trans K4.out⟩
    obtain ⟨xb, hxb⟩ : ∃ x, W4.heap.size = x := ⟨_, rfl⟩
    rw [hxb] at X5 ⊢
    clear HB4 K4 hp5 L5 hxb hs4 hkl4
    go_wp2_with (first | (refine wpList_load_row rfl 29 _ rfl b rfl 29 _ (0, 0) _ K5.out Try.underlying29 rfl (by rw [hKs]; kernel_rfl) ?_))
    refine (ST.out _).mono ?_
    rintro e W6 ⟨rfl, hb6⟩
    have HB6 := Below.thn HB5 hb6 HB5.size
    have K6 := K5.below hb6
    have X6 := X5.below hb6
    clear hb6 HB5 K5 X5
    have hcv : ∀ W, Blk W xb (bcells CB) 25 → (convert 36 9 (.slice (some ⟨xb, 0, none⟩) 16 16)).run Try.prog W = .ok (.string CS) W := fun W BX => by
      have h5 := Lib.run_convert_whole (P := Try.prog) W 36 5 9 Try.underlying36 Try.underlying5 Try.underlying9 xb 0 ⟨CB.toArray⟩ (row_bytes (blk_row BX)) 16
      rw [show (⟨CB.toArray⟩ : ByteArray).size = 16 by rw [ba_size]; simpa using hcbl, HCS.out] at h5
      exact h5
    have HCV := Lib.hid hcv
    clear hcv
    go_wp2_with fail
    refine wp_region_typed 7 (fun k => match k with  | _ => []) (fun k => match k with  | _ => false) (fun k => match k with | 1 => some ⟨(Unit), (()), (fun _ => .string CS), (fun _ _ => True), (fun _ _ _ h _ => h)⟩ | 3 => some ⟨(Unit), (()), (fun _ => .string Q1), (fun _ _ => True), (fun _ _ _ h _ => h)⟩ | 5 => some ⟨(Unit), (()), (fun _ => .string Q2), (fun _ _ => True), (fun _ _ _ h _ => h)⟩ | _ => none) (by kernel_rfl) (by kernel_rfl) (by intro d0 v0 c0 a0 w0 h0; first | (cases d0 <;> exact h0) | exact hP _ _ _ _ _ h0) ?_
    rw [show List.range 7 = [0, 1, 2, 3, 4, 5, 6] from rfl]
    first
      | (refine ty_skip rfl rfl ?_; (try simp only [Act.put, List.setIfInBounds_toArray, List.set_cons_zero, List.set_cons_succ]))
      | (refine ty_pure rfl rfl rfl rfl ?_; apply Exists.intro; refine ⟨fun wq hq hk => ?_, ?_⟩
         · simp only [pureAt]; go_simp; (try simp only [↓IntWalk.iteOmega]); (try go_bits); (try simp only [pureUpon]); (first | done | exact ⟨rfl, rfl⟩ | exact ⟨trivial, rfl⟩ | rfl)
         (try simp only [Act.put, List.setIfInBounds_toArray, List.set_cons_zero, List.set_cons_succ]))
    refine ty_rel rfl rfl _ rfl rfl (fun wq hq hk => ?_) ?_
    · have hc5 := HCV.out wq (X6.gr hq); simp only [relAt]; go_simp; (try simp only [relUpon]); exact .mk (Below.refl _ _) () rfl trivial
    rintro ⟨⟩
    (try simp only [Act.put, List.setIfInBounds_toArray, List.set_cons_zero, List.set_cons_succ])
    first
      | (refine ty_skip rfl rfl ?_; (try simp only [Act.put, List.setIfInBounds_toArray, List.set_cons_zero, List.set_cons_succ]))
      | (refine ty_pure rfl rfl rfl rfl ?_; apply Exists.intro; refine ⟨fun wq hq hk => ?_, ?_⟩
         · simp only [pureAt]; go_simp; (try simp only [↓IntWalk.iteOmega]); (try go_bits); (try simp only [pureUpon]); (first | done | exact ⟨rfl, rfl⟩ | exact ⟨trivial, rfl⟩ | rfl)
         (try simp only [Act.put, List.setIfInBounds_toArray, List.set_cons_zero, List.set_cons_succ]))
    refine ty_rel rfl rfl _ rfl rfl (fun wq hq hk => ?_) ?_
    · simp only [relAt]; go_simp; (try simp only [relUpon]); (go_at_call 18; refine (P1.out _).mono ?_; rintro e w9 ⟨rfl, hb9⟩; exact ⟨_, rfl, .mk hb9 () rfl trivial⟩)
    rintro ⟨⟩
    (try simp only [Act.put, List.setIfInBounds_toArray, List.set_cons_zero, List.set_cons_succ])
    first
      | (refine ty_skip rfl rfl ?_; (try simp only [Act.put, List.setIfInBounds_toArray, List.set_cons_zero, List.set_cons_succ]))
      | (refine ty_pure rfl rfl rfl rfl ?_; apply Exists.intro; refine ⟨fun wq hq hk => ?_, ?_⟩
         · simp only [pureAt]; go_simp; (try simp only [↓IntWalk.iteOmega]); (try go_bits); (try simp only [pureUpon]); (first | done | exact ⟨rfl, rfl⟩ | exact ⟨trivial, rfl⟩ | rfl)
         (try simp only [Act.put, List.setIfInBounds_toArray, List.set_cons_zero, List.set_cons_succ]))
    refine ty_rel rfl rfl _ rfl rfl (fun wq hq hk => ?_) ?_
    · simp only [relAt]; go_simp; (try simp only [relUpon]); (go_at_call 18; refine (P2.out _).mono ?_; rintro e w9 ⟨rfl, hb9⟩; exact ⟨_, rfl, .mk hb9 () rfl trivial⟩)
    rintro ⟨⟩
    (try simp only [Act.put, List.setIfInBounds_toArray, List.set_cons_zero, List.set_cons_succ])
    first
      | (refine ty_skip rfl rfl ?_; (try simp only [Act.put, List.setIfInBounds_toArray, List.set_cons_zero, List.set_cons_succ]))
      | (refine ty_pure rfl rfl rfl rfl ?_; apply Exists.intro; refine ⟨fun wq hq hk => ?_, ?_⟩
         · simp only [pureAt]; go_simp; (try simp only [↓IntWalk.iteOmega]); (try go_bits); (try simp only [pureUpon]); (first | done | exact ⟨rfl, rfl⟩ | exact ⟨trivial, rfl⟩ | rfl)
         (try simp only [Act.put, List.setIfInBounds_toArray, List.set_cons_zero, List.set_cons_succ]))
    refine ty_nil ?_
    simp only [List.drop_succ_cons, List.drop_zero]
    intro W7 hw7 hΓ
    have HB7 := Below.thn HB6 hw7.out HB6.size
    have K7 := K6.gr hw7
    clear hΓ hw7 HB6 K6 X6
    go_wp2_with fail
    go_ret
    exact ⟨rfl, HB7⟩
  · have g1 : (100 : Int) < n := by omega
    have g3 : ¬ n < 0 := by omega
    have g5 : ¬ n ≤ 65536 := by omega
    go_enter Try.func3, Try.ntmps3
    go_wp2_with fail
    refine (awake06_any _).mono ?_
    rintro e W1 ⟨rfl, HB1⟩
    have hs1 := HB1.size
    go_wp2_with fail
    refine (HNW.out _).mono ?_
    rintro e W2 ⟨rfl, hb⟩
    have HB2 := Below.thn HB1 hb hs1
    have hs2 := HB2.size
    clear hb HB1 hs1
    go_upto_region 6 with (refine wpList_put rfl 29 _ _ rfl W2.heap.size _ _ 29 rfl rfl (Blk.new _ _ _) (by rw [hKs]; kernel_rfl) (hKs.trans zkey_size.symm) hone (fun W3 hp3 K3 => ?_))
    (try simp only [Act.put])
    obtain ⟨b, hb⟩ : ∃ b, W2.heap.size = b := ⟨_, rfl⟩
    have HB3 : Below w.heap.size w W3 := hp3.below (by omega) (by (repeat (first | (with_reducible assumption) | (with_reducible exact Below.refl _ _) | with_reducible apply bl_drewN | with_reducible apply Below.drew | (with_reducible apply bl_alloc; focus (first | (simp; done) | (simp; omega) | omega)) | (with_reducible apply bl_set; focus (first | (simp; done) | (simp; omega) | omega)))))
    rw [hb] at K3 hs2 ⊢
    clear hp3 hb HB2
    go_wp2_with fail
    refine (BL.out _).mono ?_
    rintro e W4 ⟨rfl, hb4⟩
    have HB4 := Below.thn HB3 hb4 HB3.size
    have K4 := K3.below hb4
    have hs4 := HB4.size
    have hkl4 := K4.lt
    clear hb4 HB3 K3
    go_upto_region 7 with (refine wpList_put rfl 25 _ _ rfl W4.heap.size _ (bcells CB) 25 rfl rfl (Blk.new _ _ _) (by rw [hcbs]; kernel_rfl) (hcbs.trans rfl) (bcells_one CB) (fun W5 hp5 X5 => ?_))
    (try simp only [Act.put])
    have L5 : Below W4.heap.size W4 W5 := hp5.below (Nat.le_refl _) (by (repeat (first | (with_reducible assumption) | (with_reducible exact Below.refl _ _) | with_reducible apply bl_drewN | with_reducible apply Below.drew | (with_reducible apply bl_alloc; focus (first | (simp; done) | (simp; omega) | omega)) | (with_reducible apply bl_set; focus (first | (simp; done) | (simp; omega) | omega)))))
    have HB5 := Below.via HB4 L5 hs4
    have K5 : Blk W5 b K 29 := ⟨(L5.block b hkl4).trans K4.out⟩
    obtain ⟨xb, hxb⟩ : ∃ x, W4.heap.size = x := ⟨_, rfl⟩
    rw [hxb] at X5 ⊢
    clear HB4 K4 hp5 L5 hxb hs4 hkl4
    go_wp2_with (first | (refine wpList_load_row rfl 29 _ rfl b rfl 29 _ (0, 0) _ K5.out Try.underlying29 rfl (by rw [hKs]; kernel_rfl) ?_))
    refine (ST.out _).mono ?_
    rintro e W6 ⟨rfl, hb6⟩
    have HB6 := Below.thn HB5 hb6 HB5.size
    have K6 := K5.below hb6
    have X6 := X5.below hb6
    clear hb6 HB5 K5 X5
    have hcv : ∀ W, Blk W xb (bcells CB) 25 → (convert 36 9 (.slice (some ⟨xb, 0, none⟩) 16 16)).run Try.prog W = .ok (.string CS) W := fun W BX => by
      have h5 := Lib.run_convert_whole (P := Try.prog) W 36 5 9 Try.underlying36 Try.underlying5 Try.underlying9 xb 0 ⟨CB.toArray⟩ (row_bytes (blk_row BX)) 16
      rw [show (⟨CB.toArray⟩ : ByteArray).size = 16 by rw [ba_size]; simpa using hcbl, HCS.out] at h5
      exact h5
    have HCV := Lib.hid hcv
    clear hcv
    go_wp2_with fail
    refine wp_region_typed 7 (fun k => match k with  | _ => []) (fun k => match k with  | _ => false) (fun k => match k with | 1 => some ⟨(Unit), (()), (fun _ => .string CS), (fun _ _ => True), (fun _ _ _ h _ => h)⟩ | 3 => some ⟨(Unit), (()), (fun _ => .string Q1), (fun _ _ => True), (fun _ _ _ h _ => h)⟩ | 5 => some ⟨(Unit), (()), (fun _ => .string Q2), (fun _ _ => True), (fun _ _ _ h _ => h)⟩ | _ => none) (by kernel_rfl) (by kernel_rfl) (by intro d0 v0 c0 a0 w0 h0; first | (cases d0 <;> exact h0) | exact hP _ _ _ _ _ h0) ?_
    rw [show List.range 7 = [0, 1, 2, 3, 4, 5, 6] from rfl]
    first
      | (refine ty_skip rfl rfl ?_; (try simp only [Act.put, List.setIfInBounds_toArray, List.set_cons_zero, List.set_cons_succ]))
      | (refine ty_pure rfl rfl rfl rfl ?_; apply Exists.intro; refine ⟨fun wq hq hk => ?_, ?_⟩
         · simp only [pureAt]; go_simp; (try simp only [↓IntWalk.iteOmega]); (try go_bits); (try simp only [pureUpon]); (first | done | exact ⟨rfl, rfl⟩ | exact ⟨trivial, rfl⟩ | rfl)
         (try simp only [Act.put, List.setIfInBounds_toArray, List.set_cons_zero, List.set_cons_succ]))
    refine ty_rel rfl rfl _ rfl rfl (fun wq hq hk => ?_) ?_
    · have hc5 := HCV.out wq (X6.gr hq); simp only [relAt]; go_simp; (try simp only [relUpon]); exact .mk (Below.refl _ _) () rfl trivial
    rintro ⟨⟩
    (try simp only [Act.put, List.setIfInBounds_toArray, List.set_cons_zero, List.set_cons_succ])
    first
      | (refine ty_skip rfl rfl ?_; (try simp only [Act.put, List.setIfInBounds_toArray, List.set_cons_zero, List.set_cons_succ]))
      | (refine ty_pure rfl rfl rfl rfl ?_; apply Exists.intro; refine ⟨fun wq hq hk => ?_, ?_⟩
         · simp only [pureAt]; go_simp; (try simp only [↓IntWalk.iteOmega]); (try go_bits); (try simp only [pureUpon]); (first | done | exact ⟨rfl, rfl⟩ | exact ⟨trivial, rfl⟩ | rfl)
         (try simp only [Act.put, List.setIfInBounds_toArray, List.set_cons_zero, List.set_cons_succ]))
    refine ty_rel rfl rfl _ rfl rfl (fun wq hq hk => ?_) ?_
    · simp only [relAt]; go_simp; (try simp only [relUpon]); (go_at_call 18; refine (P1.out _).mono ?_; rintro e w9 ⟨rfl, hb9⟩; exact ⟨_, rfl, .mk hb9 () rfl trivial⟩)
    rintro ⟨⟩
    (try simp only [Act.put, List.setIfInBounds_toArray, List.set_cons_zero, List.set_cons_succ])
    first
      | (refine ty_skip rfl rfl ?_; (try simp only [Act.put, List.setIfInBounds_toArray, List.set_cons_zero, List.set_cons_succ]))
      | (refine ty_pure rfl rfl rfl rfl ?_; apply Exists.intro; refine ⟨fun wq hq hk => ?_, ?_⟩
         · simp only [pureAt]; go_simp; (try simp only [↓IntWalk.iteOmega]); (try go_bits); (try simp only [pureUpon]); (first | done | exact ⟨rfl, rfl⟩ | exact ⟨trivial, rfl⟩ | rfl)
         (try simp only [Act.put, List.setIfInBounds_toArray, List.set_cons_zero, List.set_cons_succ]))
    refine ty_rel rfl rfl _ rfl rfl (fun wq hq hk => ?_) ?_
    · simp only [relAt]; go_simp; (try simp only [relUpon]); (go_at_call 18; refine (P2.out _).mono ?_; rintro e w9 ⟨rfl, hb9⟩; exact ⟨_, rfl, .mk hb9 () rfl trivial⟩)
    rintro ⟨⟩
    (try simp only [Act.put, List.setIfInBounds_toArray, List.set_cons_zero, List.set_cons_succ])
    first
      | (refine ty_skip rfl rfl ?_; (try simp only [Act.put, List.setIfInBounds_toArray, List.set_cons_zero, List.set_cons_succ]))
      | (refine ty_pure rfl rfl rfl rfl ?_; apply Exists.intro; refine ⟨fun wq hq hk => ?_, ?_⟩
         · simp only [pureAt]; go_simp; (try simp only [↓IntWalk.iteOmega]); (try go_bits); (try simp only [pureUpon]); (first | done | exact ⟨rfl, rfl⟩ | exact ⟨trivial, rfl⟩ | rfl)
         (try simp only [Act.put, List.setIfInBounds_toArray, List.set_cons_zero, List.set_cons_succ]))
    refine ty_nil ?_
    simp only [List.drop_succ_cons, List.drop_zero]
    intro W7 hw7 hΓ
    have HB7 := Below.thn HB6 hw7.out HB6.size
    have K7 := K6.gr hw7
    clear hΓ hw7 HB6 K6 X6
    go_wp2_with fail
    go_ret
    exact ⟨rfl, HB7⟩
set_option maxHeartbeats 8000000 in
set_option maxRecDepth 20000 in
theorem streams_bad (key s : ByteArray) (nonce co : Nat) (n : Int) (hk : key.size ≠ 16) (w : World) :
    Calls Try.prog 3 #[.string key, .int .u64 (nonce : Int), .int .u64 (co : Int), .int .i64 n, .string s] w fun e w' => e = .returned (.bool true) ∧ Below w.heap.size w w' := by
  go_enter Try.func3, Try.ntmps3
  go_wp2_with fail
  refine (awake06_any _).mono ?_
  rintro e W1 ⟨rfl, HB1⟩
  have hs1 := HB1.size
  go_wp2_with fail
  refine (new_bad key _ hk).mono ?_
  rintro e W2 ⟨rfl, hb⟩
  have HB2 := Below.thn HB1 hb hs1
  have hs2 := HB2.size
  clear hb HB1 hs1
  go_wp2_with (refine wpList_put rfl 29 _ _ rfl W2.heap.size _ _ 29 rfl rfl (Blk.new _ _ _) (by rw [zkey_size]; kernel_rfl) rfl zkey_one (fun W3 hp3 K3 => ?_))
  (try simp only [Act.put])
  go_ret
  exact ⟨rfl, hp3.below (by omega) (by (repeat (first | (with_reducible assumption) | (with_reducible exact Below.refl _ _) | with_reducible apply bl_drewN | with_reducible apply Below.drew | (with_reducible apply bl_alloc; focus (first | (simp; done) | (simp; omega) | omega)) | (with_reducible apply bl_set; focus (first | (simp; done) | (simp; omega) | omega)))))⟩
set_option maxHeartbeats 8000000 in
set_option maxRecDepth 20000 in
theorem streams_long (key s : ByteArray) (nonce co : Nat) (n : Int) (hk : key.size = 16) (h : (100 < n ∧ n ≤ 65536) ∨ (100 : Int) < s.size) (w : World) :
    Calls Try.prog 3 #[.string key, .int .u64 (nonce : Int), .int .u64 (co : Int), .int .i64 n, .string s] w fun e w' => e = .returned (.bool true) ∧ Below w.heap.size w w' := by
  obtain ⟨KL, hkl⟩ : ∃ k, key.data.toList = k := ⟨_, rfl⟩
  have hKL : KL.length = 16 := by rw [← hkl]; exact hk
  have hone := kcells_one (keysN KL 10)
  have hKs := keysN_size KL hKL
  have hnw := fun W => new_any key W hk
  rw [hkl] at hnw
  obtain ⟨K, hK⟩ : ∃ K, (kcells (keysN KL 10)).toArray = K := ⟨_, rfl⟩
  rw [hK] at hnw hone hKs
  have HNW := Lib.hid hnw
  clear hnw hK
  by_cases h1 : (100 : Int) < n
  · by_cases h2 : n ≤ 65536
    · go_enter Try.func3, Try.ntmps3
      go_wp2_with fail
      refine (awake06_any _).mono ?_
      rintro e W1 ⟨rfl, HB1⟩
      have hs1 := HB1.size
      go_wp2_with fail
      refine (HNW.out _).mono ?_
      rintro e W2 ⟨rfl, hb⟩
      have HB2 := Below.thn HB1 hb hs1
      have hs2 := HB2.size
      clear hb HB1 hs1
      go_upto_region 4 with (refine wpList_put rfl 29 _ _ rfl W2.heap.size _ _ 29 rfl rfl (Blk.new _ _ _) (by rw [hKs]; kernel_rfl) (hKs.trans zkey_size.symm) hone (fun W3 hp3 K3 => ?_))
      (try simp only [Act.put])
      obtain ⟨b, hb⟩ : ∃ b, W2.heap.size = b := ⟨_, rfl⟩
      have HB3 : Below w.heap.size w W3 := hp3.below (by omega) (by (repeat (first | (with_reducible assumption) | (with_reducible exact Below.refl _ _) | with_reducible apply bl_drewN | with_reducible apply Below.drew | (with_reducible apply bl_alloc; focus (first | (simp; done) | (simp; omega) | omega)) | (with_reducible apply bl_set; focus (first | (simp; done) | (simp; omega) | omega)))))
      rw [hb] at K3 hs2 ⊢
      clear hp3 hb HB2
      go_wp2_with fail
      go_ret
      exact ⟨rfl, HB3⟩
    · have h3 : (100 : Int) < s.size := by
        rcases h with h | h
        · exact absurd h.2 h2
        · exact h
      clear h
      go_enter Try.func3, Try.ntmps3
      go_wp2_with fail
      refine (awake06_any _).mono ?_
      rintro e W1 ⟨rfl, HB1⟩
      have hs1 := HB1.size
      go_wp2_with fail
      refine (HNW.out _).mono ?_
      rintro e W2 ⟨rfl, hb⟩
      have HB2 := Below.thn HB1 hb hs1
      have hs2 := HB2.size
      clear hb HB1 hs1
      go_upto_region 4 with (refine wpList_put rfl 29 _ _ rfl W2.heap.size _ _ 29 rfl rfl (Blk.new _ _ _) (by rw [hKs]; kernel_rfl) (hKs.trans zkey_size.symm) hone (fun W3 hp3 K3 => ?_))
      (try simp only [Act.put])
      obtain ⟨b, hb⟩ : ∃ b, W2.heap.size = b := ⟨_, rfl⟩
      have HB3 : Below w.heap.size w W3 := hp3.below (by omega) (by (repeat (first | (with_reducible assumption) | (with_reducible exact Below.refl _ _) | with_reducible apply bl_drewN | with_reducible apply Below.drew | (with_reducible apply bl_alloc; focus (first | (simp; done) | (simp; omega) | omega)) | (with_reducible apply bl_set; focus (first | (simp; done) | (simp; omega) | omega)))))
      rw [hb] at K3 hs2 ⊢
      clear hp3 hb HB2
      go_wp2_with fail
      go_ret
      exact ⟨rfl, HB3⟩
  · have h3 : (100 : Int) < s.size := by
      rcases h with h | h
      · exact absurd h.1 h1
      · exact h
    clear h
    go_enter Try.func3, Try.ntmps3
    go_wp2_with fail
    refine (awake06_any _).mono ?_
    rintro e W1 ⟨rfl, HB1⟩
    have hs1 := HB1.size
    go_wp2_with fail
    refine (HNW.out _).mono ?_
    rintro e W2 ⟨rfl, hb⟩
    have HB2 := Below.thn HB1 hb hs1
    have hs2 := HB2.size
    clear hb HB1 hs1
    go_upto_region 4 with (refine wpList_put rfl 29 _ _ rfl W2.heap.size _ _ 29 rfl rfl (Blk.new _ _ _) (by rw [hKs]; kernel_rfl) (hKs.trans zkey_size.symm) hone (fun W3 hp3 K3 => ?_))
    (try simp only [Act.put])
    obtain ⟨b, hb⟩ : ∃ b, W2.heap.size = b := ⟨_, rfl⟩
    have HB3 : Below w.heap.size w W3 := hp3.below (by omega) (by (repeat (first | (with_reducible assumption) | (with_reducible exact Below.refl _ _) | with_reducible apply bl_drewN | with_reducible apply Below.drew | (with_reducible apply bl_alloc; focus (first | (simp; done) | (simp; omega) | omega)) | (with_reducible apply bl_set; focus (first | (simp; done) | (simp; omega) | omega)))))
    rw [hb] at K3 hs2 ⊢
    clear hp3 hb HB2
    go_wp2_with fail
    go_ret
    exact ⟨rfl, HB3⟩
end Go.Proofs.Ytkblkdojmfgneaa
