/- SealBodies: the walk. -/
import Derived.Test.YtkblkdojmfgneaaSealB
namespace Go.Proofs.Ytkblkdojmfgneaa
open Go.RowKit

set_option maxHeartbeats 16000000 in
set_option maxRecDepth 20000 in
theorem bodies_good (key body s : ByteArray) (id nonce seq : Nat) (down : Bool) (hi : id ≤ 18446744073709551615) (hn : nonce ≤ 18446744073709551615) (hq : seq ≤ 18446744073709551615) (h1 : 1 ≤ key.size) (h64 : key.size ≤ 64) (hm : max body.size s.size ≤ 100) (w : World) :
    Calls Try.prog 9 #[.string key, .int .u64 (id : Int), .int .u64 (nonce : Int), .int .u64 (seq : Int), .bool down, .string body, .string s] w fun e w' => e = .returned (.bool true) ∧ Below w.heap.size w w' := by
  have g1 : ¬ (100 : Int) < max (body.size : Int) (s.size : Int) := by omega
  have g2 : ¬ (70 : Int) < (key.size : Int) := by omega
  have g3 : ¬ (key.size : Int) < 1 := by omega
  have g4 : ¬ (64 : Int) < (key.size : Int) := by omega
  have hwh := swhole_any key
  have hbv := boxK_size key
  have hone := boxK_one key
  have hnw := fun W => snew_any key W h1 h64
  rw [show xcells (kcells (keysN (encK key) 10)).toArray (macK key) = boxK key from rfl] at hnw
  have hzs := zbox_size
  have se := fun W => seal_gen (boxK key) key body hbv hwh id nonce hi hn (by omega) W
  have hss := sealB_size key id nonce body
  have op1 := fun W => open_gen (boxK key) key (sealB key id nonce body) hbv hwh id nonce hi hn (by omega) W
  rw [openB_sealB] at op1
  have op2 := fun W => open_gen (boxK key) key s hbv hwh id nonce hi hn (by omega) W
  have ro := fun W => ropen_any key s id nonce (by omega) hi hn (by omega) W
  have rs := fun W => rseal_any key body id nonce (by omega) hi hn (by omega) W
  have hd := fun W => head_any id nonce hi hn W
  have rh := fun W => rhead_any id nonce hi hn W
  obtain ⟨S, hS⟩ : ∃ k, sealB key id nonce body = k := ⟨_, rfl⟩
  obtain ⟨H, hH⟩ : ∃ k, headB id nonce = k := ⟨_, rfl⟩
  obtain ⟨⟨y, z⟩, hO⟩ : ∃ k, openB key id nonce s = k := ⟨_, rfl⟩
  rw [hS] at se hss op1 rs; rw [hH] at hd rh; rw [hO] at op2 ro
  simp only at op1 op2 ro
  have hsi : (S.size : Int) = (body.size : Int) + 16 := by omega
  have NW := Lib.hid hnw; have SE := Lib.hid se; have OP1 := Lib.hid op1; have OP2 := Lib.hid op2; have RO := Lib.hid ro; have RS := Lib.hid rs; have HD := Lib.hid hd; have RH := Lib.hid rh
  have hb100 : body.size ≤ 100 := by omega
  clear hwh hnw se op1 op2 ro rs hd rh hS hH hO hss
  obtain ⟨KB, hKB⟩ : ∃ k, boxK key = k := ⟨_, rfl⟩
  rw [hKB] at hbv hone NW SE OP1 OP2
  clear hKB
  by_cases hsq : 9223372036854775807 < seq
  · have nn := fun W => nonce_any seq down W (by omega)
    rw [if_pos hsq, if_pos hsq] at nn
    have q1 : (9223372036854775808 : Int) ≤ (seq : Int) := by omega
    have NN := Lib.hid nn
    clear nn hsq
    go_enter Try.func9, Try.ntmps9
    go_wp2_with fail
    refine (awake07_any _).mono ?_
    rintro e W1 ⟨rfl, HB1⟩
    go_wp2_with fail
    refine (NN.out _).mono ?_
    rintro e W2 ⟨rfl, hw2⟩
    subst hw2
    go_wp2_with fail
    refine (NW.out _).mono ?_
    rintro e W3 ⟨rfl, hb⟩
    have HB3 := Below.thn HB1 hb HB1.size
    have hs3 := HB3.size
    clear hb HB1
    go_upto_region 13 with (refine wpList_put rfl 51 _ _ rfl W3.heap.size _ _ 51 rfl rfl (Blk.new _ _ _) (by rw [hbv]; kernel_rfl) (hbv.trans hzs.symm) hone (fun W4 hp4 BW4 => ?_))
    (try simp only [Act.put])
    have HBW4 : Below w.heap.size w W4 := hp4.below hs3 (by (repeat (first | (with_reducible assumption) | (with_reducible exact Below.refl _ _) | with_reducible apply bl_drewN | with_reducible apply Below.drew | (with_reducible apply bl_alloc; focus (first | (simp; done) | (simp; omega) | omega)) | (with_reducible apply bl_set; focus (first | (simp; done) | (simp; omega) | omega)))))
    obtain ⟨bb, hbb⟩ : ∃ b, W3.heap.size = b := ⟨_, rfl⟩
    rw [hbb] at BW4 ⊢
    clear hp4 hbb HB3 hs3
    go_wp2_with (refine wpList_load_row rfl 51 _ rfl bb rfl 51 _ (0, 0) _ BW4.out Try.underlying51 rfl (by rw [hbv]; kernel_rfl) ?_)
    refine (SE.out _).mono ?_
    rintro e W5 ⟨rfl, hb⟩
    have HBW5 := Below.thn HBW4 hb HBW4.size
    have BW5 := BW4.below hb
    clear hb HBW4 BW4
    go_wp2_with (refine wpList_load_row rfl 51 _ rfl bb rfl 51 _ (0, 0) _ BW5.out Try.underlying51 rfl (by rw [hbv]; kernel_rfl) ?_)
    refine (OP1.out _).mono ?_
    rintro e W6 ⟨rfl, hb⟩
    have HBW6 := Below.thn HBW5 hb HBW5.size
    have BW6 := BW5.below hb
    clear hb HBW5 BW5
    go_wp2_with (refine wpList_load_row rfl 51 _ rfl bb rfl 51 _ (0, 0) _ BW6.out Try.underlying51 rfl (by rw [hbv]; kernel_rfl) ?_)
    refine (OP2.out _).mono ?_
    rintro e W7 ⟨rfl, hb⟩
    have HBW7 := Below.thn HBW6 hb HBW6.size
    have BW7 := BW6.below hb
    clear hb HBW6 BW6
    go_wp2_with fail
    refine (RO.out _).mono ?_
    rintro e W8 ⟨rfl, hb⟩
    have HBW8 := Below.thn HBW7 hb HBW7.size
    have BW8 := BW7.below hb
    clear hb HBW7 BW7
    go_wp2_with fail
    refine (RS.out _).mono ?_
    rintro e W9 ⟨rfl, hb⟩
    have HBW9 := Below.thn HBW8 hb HBW8.size
    have BW9 := BW8.below hb
    clear hb HBW8 BW8
    go_wp2_with fail
    refine (size_any body.size (by omega) _).mono ?_
    rintro e W10 ⟨rfl, hw10⟩
    subst hw10
    go_wp2_with fail
    refine (HD.out _).mono ?_
    rintro e W11 ⟨rfl, hb⟩
    have HBW11 := Below.thn HBW9 hb HBW9.size
    have BW11 := BW9.below hb
    clear hb HBW9 BW9
    go_wp2_with fail
    refine (RH.out _).mono ?_
    rintro e W12 ⟨rfl, hb⟩
    have HBW12 := Below.thn HBW11 hb HBW11.size
    have BW12 := BW11.below hb
    clear hb HBW11 BW11
    go_wp2_with fail
    go_ret
    exact ⟨rfl, HBW12⟩
  · have nn := fun W => nonce_any seq down W (by omega)
    rw [if_neg hsq, if_neg hsq] at nn
    have hsq2 : seq ≤ 9223372036854775807 := by omega
    have HSQ := Lib.hid hsq2
    have sq := fun W => seq_any (if down = true then seq + 9223372036854775808 else seq) W (by cases down <;> simp <;> omega)
    have e1 : (if down = true then seq + 9223372036854775808 else seq) % 9223372036854775808 = seq := by cases down <;> simp <;> omega
    have e2 : decide (9223372036854775808 ≤ (if down = true then seq + 9223372036854775808 else seq)) = down := by cases down <;> simp <;> omega
    rw [e1, e2] at sq
    obtain ⟨nv, hnv⟩ : ∃ k, (if down = true then seq + 9223372036854775808 else seq) = k := ⟨_, rfl⟩
    rw [hnv] at nn sq
    have NN := Lib.hid nn; have SQ := Lib.hid sq
    clear nn sq e1 e2 hnv hsq hsq2
    go_enter Try.func9, Try.ntmps9
    go_wp2_with fail
    refine (awake07_any _).mono ?_
    rintro e W1 ⟨rfl, HB1⟩
    go_wp2_with fail
    refine (NN.out _).mono ?_
    rintro e W2 ⟨rfl, hw2⟩
    subst hw2
    have q1 : decide ((9223372036854775808 : Int) ≤ (seq : Int)) = false := by have := HSQ.out; simp; omega
    go_wp2_with fail
    refine (SQ.out _).mono ?_
    rintro e W2 ⟨rfl, hw2⟩
    subst hw2
    go_wp2_with fail
    refine (NW.out _).mono ?_
    rintro e W3 ⟨rfl, hb⟩
    have HB3 := Below.thn HB1 hb HB1.size
    have hs3 := HB3.size
    clear hb HB1
    go_upto_region 13 with (refine wpList_put rfl 51 _ _ rfl W3.heap.size _ _ 51 rfl rfl (Blk.new _ _ _) (by rw [hbv]; kernel_rfl) (hbv.trans hzs.symm) hone (fun W4 hp4 BW4 => ?_))
    (try simp only [Act.put])
    have HBW4 : Below w.heap.size w W4 := hp4.below hs3 (by (repeat (first | (with_reducible assumption) | (with_reducible exact Below.refl _ _) | with_reducible apply bl_drewN | with_reducible apply Below.drew | (with_reducible apply bl_alloc; focus (first | (simp; done) | (simp; omega) | omega)) | (with_reducible apply bl_set; focus (first | (simp; done) | (simp; omega) | omega)))))
    obtain ⟨bb, hbb⟩ : ∃ b, W3.heap.size = b := ⟨_, rfl⟩
    rw [hbb] at BW4 ⊢
    clear hp4 hbb HB3 hs3
    go_wp2_with (refine wpList_load_row rfl 51 _ rfl bb rfl 51 _ (0, 0) _ BW4.out Try.underlying51 rfl (by rw [hbv]; kernel_rfl) ?_)
    refine (SE.out _).mono ?_
    rintro e W5 ⟨rfl, hb⟩
    have HBW5 := Below.thn HBW4 hb HBW4.size
    have BW5 := BW4.below hb
    clear hb HBW4 BW4
    go_wp2_with (refine wpList_load_row rfl 51 _ rfl bb rfl 51 _ (0, 0) _ BW5.out Try.underlying51 rfl (by rw [hbv]; kernel_rfl) ?_)
    refine (OP1.out _).mono ?_
    rintro e W6 ⟨rfl, hb⟩
    have HBW6 := Below.thn HBW5 hb HBW5.size
    have BW6 := BW5.below hb
    clear hb HBW5 BW5
    go_wp2_with (refine wpList_load_row rfl 51 _ rfl bb rfl 51 _ (0, 0) _ BW6.out Try.underlying51 rfl (by rw [hbv]; kernel_rfl) ?_)
    refine (OP2.out _).mono ?_
    rintro e W7 ⟨rfl, hb⟩
    have HBW7 := Below.thn HBW6 hb HBW6.size
    have BW7 := BW6.below hb
    clear hb HBW6 BW6
    go_wp2_with fail
    refine (RO.out _).mono ?_
    rintro e W8 ⟨rfl, hb⟩
    have HBW8 := Below.thn HBW7 hb HBW7.size
    have BW8 := BW7.below hb
    clear hb HBW7 BW7
    go_wp2_with fail
    refine (RS.out _).mono ?_
    rintro e W9 ⟨rfl, hb⟩
    have HBW9 := Below.thn HBW8 hb HBW8.size
    have BW9 := BW8.below hb
    clear hb HBW8 BW8
    go_wp2_with fail
    refine (size_any body.size (by omega) _).mono ?_
    rintro e W10 ⟨rfl, hw10⟩
    subst hw10
    go_wp2_with fail
    refine (HD.out _).mono ?_
    rintro e W11 ⟨rfl, hb⟩
    have HBW11 := Below.thn HBW9 hb HBW9.size
    have BW11 := BW9.below hb
    clear hb HBW9 BW9
    go_wp2_with fail
    refine (RH.out _).mono ?_
    rintro e W12 ⟨rfl, hb⟩
    have HBW12 := Below.thn HBW11 hb HBW11.size
    have BW12 := BW11.below hb
    clear hb HBW11 BW11
    go_wp2_with fail
    go_ret
    exact ⟨rfl, HBW12⟩
set_option maxHeartbeats 16000000 in
set_option maxRecDepth 20000 in
theorem bodies_bad (key body s : ByteArray) (id nonce seq : Nat) (down : Bool) (hi : id ≤ 18446744073709551615) (hn : nonce ≤ 18446744073709551615) (hq : seq ≤ 18446744073709551615) (hk : key.size = 0 ∨ 64 < key.size) (h70 : key.size ≤ 70) (hm : max body.size s.size ≤ 100) (w : World) :
    Calls Try.prog 9 #[.string key, .int .u64 (id : Int), .int .u64 (nonce : Int), .int .u64 (seq : Int), .bool down, .string body, .string s] w fun e w' => e = .returned (.bool true) ∧ Below w.heap.size w w' := by
  have g1 : ¬ (100 : Int) < max (body.size : Int) (s.size : Int) := by omega
  have g2 : ¬ (70 : Int) < (key.size : Int) := by omega
  have hwh := swhole_zero
  have hbv := zbox_size
  have hone := zbox_one
  have hnw := fun W => snew_bad key W hk
  have hzs := zbox_size
  have se := fun W => seal_gen Try.zeroCells51 ⟨#[0]⟩ body hbv hwh id nonce hi hn (by omega) W
  have hss := sealB_size ⟨#[0]⟩ id nonce body
  have op1 := fun W => open_gen Try.zeroCells51 ⟨#[0]⟩ (sealB ⟨#[0]⟩ id nonce body) hbv hwh id nonce hi hn (by omega) W
  rw [openB_sealB] at op1
  have op2 := fun W => open_gen Try.zeroCells51 ⟨#[0]⟩ s hbv hwh id nonce hi hn (by omega) W
  have ro := fun W => ropen_any ⟨#[0]⟩ s id nonce (by decide) hi hn (by omega) W
  have rs := fun W => rseal_any ⟨#[0]⟩ body id nonce (by decide) hi hn (by omega) W
  have hd := fun W => head_any id nonce hi hn W
  have rh := fun W => rhead_any id nonce hi hn W
  obtain ⟨S, hS⟩ : ∃ k, sealB ⟨#[0]⟩ id nonce body = k := ⟨_, rfl⟩
  obtain ⟨H, hH⟩ : ∃ k, headB id nonce = k := ⟨_, rfl⟩
  obtain ⟨⟨y, z⟩, hO⟩ : ∃ k, openB ⟨#[0]⟩ id nonce s = k := ⟨_, rfl⟩
  rw [hS] at se hss op1 rs; rw [hH] at hd rh; rw [hO] at op2 ro
  simp only at op1 op2 ro
  have hsi : (S.size : Int) = (body.size : Int) + 16 := by omega
  have NW := Lib.hid hnw; have SE := Lib.hid se; have OP1 := Lib.hid op1; have OP2 := Lib.hid op2; have RO := Lib.hid ro; have RS := Lib.hid rs; have HD := Lib.hid hd; have RH := Lib.hid rh
  have hb100 : body.size ≤ 100 := by omega
  clear hwh hnw se op1 op2 ro rs hd rh hS hH hO hss
  rcases hk with hk | hk
  · have g3 : (key.size : Int) < 1 := by omega
    by_cases hsq : 9223372036854775807 < seq
    · have nn := fun W => nonce_any seq down W (by omega)
      rw [if_pos hsq, if_pos hsq] at nn
      have q1 : (9223372036854775808 : Int) ≤ (seq : Int) := by omega
      have NN := Lib.hid nn
      clear nn hsq
      go_enter Try.func9, Try.ntmps9
      go_wp2_with fail
      refine (awake07_any _).mono ?_
      rintro e W1 ⟨rfl, HB1⟩
      go_wp2_with fail
      refine (NN.out _).mono ?_
      rintro e W2 ⟨rfl, hw2⟩
      subst hw2
      go_wp2_with fail
      refine (NW.out _).mono ?_
      rintro e W3 ⟨rfl, hb⟩
      have HB3 := Below.thn HB1 hb HB1.size
      have hs3 := HB3.size
      clear hb HB1
      go_upto_region 13 with (refine wpList_put rfl 51 _ _ rfl W3.heap.size _ _ 51 rfl rfl (Blk.new _ _ _) (by rw [hbv]; kernel_rfl) (hbv.trans hzs.symm) hone (fun W4 hp4 BW4 => ?_))
      (try simp only [Act.put])
      have HBW4 : Below w.heap.size w W4 := hp4.below hs3 (by (repeat (first | (with_reducible assumption) | (with_reducible exact Below.refl _ _) | with_reducible apply bl_drewN | with_reducible apply Below.drew | (with_reducible apply bl_alloc; focus (first | (simp; done) | (simp; omega) | omega)) | (with_reducible apply bl_set; focus (first | (simp; done) | (simp; omega) | omega)))))
      obtain ⟨bb, hbb⟩ : ∃ b, W3.heap.size = b := ⟨_, rfl⟩
      rw [hbb] at BW4 ⊢
      clear hp4 hbb HB3 hs3
      go_wp2_with (refine wpList_load_row rfl 51 _ rfl bb rfl 51 _ (0, 0) _ BW4.out Try.underlying51 rfl (by rw [hbv]; kernel_rfl) ?_)
      refine (SE.out _).mono ?_
      rintro e W5 ⟨rfl, hb⟩
      have HBW5 := Below.thn HBW4 hb HBW4.size
      have BW5 := BW4.below hb
      clear hb HBW4 BW4
      go_wp2_with (refine wpList_load_row rfl 51 _ rfl bb rfl 51 _ (0, 0) _ BW5.out Try.underlying51 rfl (by rw [hbv]; kernel_rfl) ?_)
      refine (OP1.out _).mono ?_
      rintro e W6 ⟨rfl, hb⟩
      have HBW6 := Below.thn HBW5 hb HBW5.size
      have BW6 := BW5.below hb
      clear hb HBW5 BW5
      go_wp2_with (refine wpList_load_row rfl 51 _ rfl bb rfl 51 _ (0, 0) _ BW6.out Try.underlying51 rfl (by rw [hbv]; kernel_rfl) ?_)
      refine (OP2.out _).mono ?_
      rintro e W7 ⟨rfl, hb⟩
      have HBW7 := Below.thn HBW6 hb HBW6.size
      have BW7 := BW6.below hb
      clear hb HBW6 BW6
      go_wp2_with fail
      refine (RO.out _).mono ?_
      rintro e W8 ⟨rfl, hb⟩
      have HBW8 := Below.thn HBW7 hb HBW7.size
      have BW8 := BW7.below hb
      clear hb HBW7 BW7
      go_wp2_with fail
      refine (RS.out _).mono ?_
      rintro e W9 ⟨rfl, hb⟩
      have HBW9 := Below.thn HBW8 hb HBW8.size
      have BW9 := BW8.below hb
      clear hb HBW8 BW8
      go_wp2_with fail
      refine (size_any body.size (by omega) _).mono ?_
      rintro e W10 ⟨rfl, hw10⟩
      subst hw10
      go_wp2_with fail
      refine (HD.out _).mono ?_
      rintro e W11 ⟨rfl, hb⟩
      have HBW11 := Below.thn HBW9 hb HBW9.size
      have BW11 := BW9.below hb
      clear hb HBW9 BW9
      go_wp2_with fail
      refine (RH.out _).mono ?_
      rintro e W12 ⟨rfl, hb⟩
      have HBW12 := Below.thn HBW11 hb HBW11.size
      have BW12 := BW11.below hb
      clear hb HBW11 BW11
      go_wp2_with fail
      go_ret
      exact ⟨rfl, HBW12⟩
    · have nn := fun W => nonce_any seq down W (by omega)
      rw [if_neg hsq, if_neg hsq] at nn
      have hsq2 : seq ≤ 9223372036854775807 := by omega
      have HSQ := Lib.hid hsq2
      have sq := fun W => seq_any (if down = true then seq + 9223372036854775808 else seq) W (by cases down <;> simp <;> omega)
      have e1 : (if down = true then seq + 9223372036854775808 else seq) % 9223372036854775808 = seq := by cases down <;> simp <;> omega
      have e2 : decide (9223372036854775808 ≤ (if down = true then seq + 9223372036854775808 else seq)) = down := by cases down <;> simp <;> omega
      rw [e1, e2] at sq
      obtain ⟨nv, hnv⟩ : ∃ k, (if down = true then seq + 9223372036854775808 else seq) = k := ⟨_, rfl⟩
      rw [hnv] at nn sq
      have NN := Lib.hid nn; have SQ := Lib.hid sq
      clear nn sq e1 e2 hnv hsq hsq2
      go_enter Try.func9, Try.ntmps9
      go_wp2_with fail
      refine (awake07_any _).mono ?_
      rintro e W1 ⟨rfl, HB1⟩
      go_wp2_with fail
      refine (NN.out _).mono ?_
      rintro e W2 ⟨rfl, hw2⟩
      subst hw2
      have q1 : decide ((9223372036854775808 : Int) ≤ (seq : Int)) = false := by have := HSQ.out; simp; omega
      go_wp2_with fail
      refine (SQ.out _).mono ?_
      rintro e W2 ⟨rfl, hw2⟩
      subst hw2
      go_wp2_with fail
      refine (NW.out _).mono ?_
      rintro e W3 ⟨rfl, hb⟩
      have HB3 := Below.thn HB1 hb HB1.size
      have hs3 := HB3.size
      clear hb HB1
      go_upto_region 13 with (refine wpList_put rfl 51 _ _ rfl W3.heap.size _ _ 51 rfl rfl (Blk.new _ _ _) (by rw [hbv]; kernel_rfl) (hbv.trans hzs.symm) hone (fun W4 hp4 BW4 => ?_))
      (try simp only [Act.put])
      have HBW4 : Below w.heap.size w W4 := hp4.below hs3 (by (repeat (first | (with_reducible assumption) | (with_reducible exact Below.refl _ _) | with_reducible apply bl_drewN | with_reducible apply Below.drew | (with_reducible apply bl_alloc; focus (first | (simp; done) | (simp; omega) | omega)) | (with_reducible apply bl_set; focus (first | (simp; done) | (simp; omega) | omega)))))
      obtain ⟨bb, hbb⟩ : ∃ b, W3.heap.size = b := ⟨_, rfl⟩
      rw [hbb] at BW4 ⊢
      clear hp4 hbb HB3 hs3
      go_wp2_with (refine wpList_load_row rfl 51 _ rfl bb rfl 51 _ (0, 0) _ BW4.out Try.underlying51 rfl (by rw [hbv]; kernel_rfl) ?_)
      refine (SE.out _).mono ?_
      rintro e W5 ⟨rfl, hb⟩
      have HBW5 := Below.thn HBW4 hb HBW4.size
      have BW5 := BW4.below hb
      clear hb HBW4 BW4
      go_wp2_with (refine wpList_load_row rfl 51 _ rfl bb rfl 51 _ (0, 0) _ BW5.out Try.underlying51 rfl (by rw [hbv]; kernel_rfl) ?_)
      refine (OP1.out _).mono ?_
      rintro e W6 ⟨rfl, hb⟩
      have HBW6 := Below.thn HBW5 hb HBW5.size
      have BW6 := BW5.below hb
      clear hb HBW5 BW5
      go_wp2_with (refine wpList_load_row rfl 51 _ rfl bb rfl 51 _ (0, 0) _ BW6.out Try.underlying51 rfl (by rw [hbv]; kernel_rfl) ?_)
      refine (OP2.out _).mono ?_
      rintro e W7 ⟨rfl, hb⟩
      have HBW7 := Below.thn HBW6 hb HBW6.size
      have BW7 := BW6.below hb
      clear hb HBW6 BW6
      go_wp2_with fail
      refine (RO.out _).mono ?_
      rintro e W8 ⟨rfl, hb⟩
      have HBW8 := Below.thn HBW7 hb HBW7.size
      have BW8 := BW7.below hb
      clear hb HBW7 BW7
      go_wp2_with fail
      refine (RS.out _).mono ?_
      rintro e W9 ⟨rfl, hb⟩
      have HBW9 := Below.thn HBW8 hb HBW8.size
      have BW9 := BW8.below hb
      clear hb HBW8 BW8
      go_wp2_with fail
      refine (size_any body.size (by omega) _).mono ?_
      rintro e W10 ⟨rfl, hw10⟩
      subst hw10
      go_wp2_with fail
      refine (HD.out _).mono ?_
      rintro e W11 ⟨rfl, hb⟩
      have HBW11 := Below.thn HBW9 hb HBW9.size
      have BW11 := BW9.below hb
      clear hb HBW9 BW9
      go_wp2_with fail
      refine (RH.out _).mono ?_
      rintro e W12 ⟨rfl, hb⟩
      have HBW12 := Below.thn HBW11 hb HBW11.size
      have BW12 := BW11.below hb
      clear hb HBW11 BW11
      go_wp2_with fail
      go_ret
      exact ⟨rfl, HBW12⟩
  · have g3 : ¬ (key.size : Int) < 1 := by omega
    have g4 : (64 : Int) < (key.size : Int) := by omega
    by_cases hsq : 9223372036854775807 < seq
    · have nn := fun W => nonce_any seq down W (by omega)
      rw [if_pos hsq, if_pos hsq] at nn
      have q1 : (9223372036854775808 : Int) ≤ (seq : Int) := by omega
      have NN := Lib.hid nn
      clear nn hsq
      go_enter Try.func9, Try.ntmps9
      go_wp2_with fail
      refine (awake07_any _).mono ?_
      rintro e W1 ⟨rfl, HB1⟩
      go_wp2_with fail
      refine (NN.out _).mono ?_
      rintro e W2 ⟨rfl, hw2⟩
      subst hw2
      go_wp2_with fail
      refine (NW.out _).mono ?_
      rintro e W3 ⟨rfl, hb⟩
      have HB3 := Below.thn HB1 hb HB1.size
      have hs3 := HB3.size
      clear hb HB1
      go_upto_region 13 with (refine wpList_put rfl 51 _ _ rfl W3.heap.size _ _ 51 rfl rfl (Blk.new _ _ _) (by rw [hbv]; kernel_rfl) (hbv.trans hzs.symm) hone (fun W4 hp4 BW4 => ?_))
      (try simp only [Act.put])
      have HBW4 : Below w.heap.size w W4 := hp4.below hs3 (by (repeat (first | (with_reducible assumption) | (with_reducible exact Below.refl _ _) | with_reducible apply bl_drewN | with_reducible apply Below.drew | (with_reducible apply bl_alloc; focus (first | (simp; done) | (simp; omega) | omega)) | (with_reducible apply bl_set; focus (first | (simp; done) | (simp; omega) | omega)))))
      obtain ⟨bb, hbb⟩ : ∃ b, W3.heap.size = b := ⟨_, rfl⟩
      rw [hbb] at BW4 ⊢
      clear hp4 hbb HB3 hs3
      go_wp2_with (refine wpList_load_row rfl 51 _ rfl bb rfl 51 _ (0, 0) _ BW4.out Try.underlying51 rfl (by rw [hbv]; kernel_rfl) ?_)
      refine (SE.out _).mono ?_
      rintro e W5 ⟨rfl, hb⟩
      have HBW5 := Below.thn HBW4 hb HBW4.size
      have BW5 := BW4.below hb
      clear hb HBW4 BW4
      go_wp2_with (refine wpList_load_row rfl 51 _ rfl bb rfl 51 _ (0, 0) _ BW5.out Try.underlying51 rfl (by rw [hbv]; kernel_rfl) ?_)
      refine (OP1.out _).mono ?_
      rintro e W6 ⟨rfl, hb⟩
      have HBW6 := Below.thn HBW5 hb HBW5.size
      have BW6 := BW5.below hb
      clear hb HBW5 BW5
      go_wp2_with (refine wpList_load_row rfl 51 _ rfl bb rfl 51 _ (0, 0) _ BW6.out Try.underlying51 rfl (by rw [hbv]; kernel_rfl) ?_)
      refine (OP2.out _).mono ?_
      rintro e W7 ⟨rfl, hb⟩
      have HBW7 := Below.thn HBW6 hb HBW6.size
      have BW7 := BW6.below hb
      clear hb HBW6 BW6
      go_wp2_with fail
      refine (RO.out _).mono ?_
      rintro e W8 ⟨rfl, hb⟩
      have HBW8 := Below.thn HBW7 hb HBW7.size
      have BW8 := BW7.below hb
      clear hb HBW7 BW7
      go_wp2_with fail
      refine (RS.out _).mono ?_
      rintro e W9 ⟨rfl, hb⟩
      have HBW9 := Below.thn HBW8 hb HBW8.size
      have BW9 := BW8.below hb
      clear hb HBW8 BW8
      go_wp2_with fail
      refine (size_any body.size (by omega) _).mono ?_
      rintro e W10 ⟨rfl, hw10⟩
      subst hw10
      go_wp2_with fail
      refine (HD.out _).mono ?_
      rintro e W11 ⟨rfl, hb⟩
      have HBW11 := Below.thn HBW9 hb HBW9.size
      have BW11 := BW9.below hb
      clear hb HBW9 BW9
      go_wp2_with fail
      refine (RH.out _).mono ?_
      rintro e W12 ⟨rfl, hb⟩
      have HBW12 := Below.thn HBW11 hb HBW11.size
      have BW12 := BW11.below hb
      clear hb HBW11 BW11
      go_wp2_with fail
      go_ret
      exact ⟨rfl, HBW12⟩
    · have nn := fun W => nonce_any seq down W (by omega)
      rw [if_neg hsq, if_neg hsq] at nn
      have hsq2 : seq ≤ 9223372036854775807 := by omega
      have HSQ := Lib.hid hsq2
      have sq := fun W => seq_any (if down = true then seq + 9223372036854775808 else seq) W (by cases down <;> simp <;> omega)
      have e1 : (if down = true then seq + 9223372036854775808 else seq) % 9223372036854775808 = seq := by cases down <;> simp <;> omega
      have e2 : decide (9223372036854775808 ≤ (if down = true then seq + 9223372036854775808 else seq)) = down := by cases down <;> simp <;> omega
      rw [e1, e2] at sq
      obtain ⟨nv, hnv⟩ : ∃ k, (if down = true then seq + 9223372036854775808 else seq) = k := ⟨_, rfl⟩
      rw [hnv] at nn sq
      have NN := Lib.hid nn; have SQ := Lib.hid sq
      clear nn sq e1 e2 hnv hsq hsq2
      go_enter Try.func9, Try.ntmps9
      go_wp2_with fail
      refine (awake07_any _).mono ?_
      rintro e W1 ⟨rfl, HB1⟩
      go_wp2_with fail
      refine (NN.out _).mono ?_
      rintro e W2 ⟨rfl, hw2⟩
      subst hw2
      have q1 : decide ((9223372036854775808 : Int) ≤ (seq : Int)) = false := by have := HSQ.out; simp; omega
      go_wp2_with fail
      refine (SQ.out _).mono ?_
      rintro e W2 ⟨rfl, hw2⟩
      subst hw2
      go_wp2_with fail
      refine (NW.out _).mono ?_
      rintro e W3 ⟨rfl, hb⟩
      have HB3 := Below.thn HB1 hb HB1.size
      have hs3 := HB3.size
      clear hb HB1
      go_upto_region 13 with (refine wpList_put rfl 51 _ _ rfl W3.heap.size _ _ 51 rfl rfl (Blk.new _ _ _) (by rw [hbv]; kernel_rfl) (hbv.trans hzs.symm) hone (fun W4 hp4 BW4 => ?_))
      (try simp only [Act.put])
      have HBW4 : Below w.heap.size w W4 := hp4.below hs3 (by (repeat (first | (with_reducible assumption) | (with_reducible exact Below.refl _ _) | with_reducible apply bl_drewN | with_reducible apply Below.drew | (with_reducible apply bl_alloc; focus (first | (simp; done) | (simp; omega) | omega)) | (with_reducible apply bl_set; focus (first | (simp; done) | (simp; omega) | omega)))))
      obtain ⟨bb, hbb⟩ : ∃ b, W3.heap.size = b := ⟨_, rfl⟩
      rw [hbb] at BW4 ⊢
      clear hp4 hbb HB3 hs3
      go_wp2_with (refine wpList_load_row rfl 51 _ rfl bb rfl 51 _ (0, 0) _ BW4.out Try.underlying51 rfl (by rw [hbv]; kernel_rfl) ?_)
      refine (SE.out _).mono ?_
      rintro e W5 ⟨rfl, hb⟩
      have HBW5 := Below.thn HBW4 hb HBW4.size
      have BW5 := BW4.below hb
      clear hb HBW4 BW4
      go_wp2_with (refine wpList_load_row rfl 51 _ rfl bb rfl 51 _ (0, 0) _ BW5.out Try.underlying51 rfl (by rw [hbv]; kernel_rfl) ?_)
      refine (OP1.out _).mono ?_
      rintro e W6 ⟨rfl, hb⟩
      have HBW6 := Below.thn HBW5 hb HBW5.size
      have BW6 := BW5.below hb
      clear hb HBW5 BW5
      go_wp2_with (refine wpList_load_row rfl 51 _ rfl bb rfl 51 _ (0, 0) _ BW6.out Try.underlying51 rfl (by rw [hbv]; kernel_rfl) ?_)
      refine (OP2.out _).mono ?_
      rintro e W7 ⟨rfl, hb⟩
      have HBW7 := Below.thn HBW6 hb HBW6.size
      have BW7 := BW6.below hb
      clear hb HBW6 BW6
      go_wp2_with fail
      refine (RO.out _).mono ?_
      rintro e W8 ⟨rfl, hb⟩
      have HBW8 := Below.thn HBW7 hb HBW7.size
      have BW8 := BW7.below hb
      clear hb HBW7 BW7
      go_wp2_with fail
      refine (RS.out _).mono ?_
      rintro e W9 ⟨rfl, hb⟩
      have HBW9 := Below.thn HBW8 hb HBW8.size
      have BW9 := BW8.below hb
      clear hb HBW8 BW8
      go_wp2_with fail
      refine (size_any body.size (by omega) _).mono ?_
      rintro e W10 ⟨rfl, hw10⟩
      subst hw10
      go_wp2_with fail
      refine (HD.out _).mono ?_
      rintro e W11 ⟨rfl, hb⟩
      have HBW11 := Below.thn HBW9 hb HBW9.size
      have BW11 := BW9.below hb
      clear hb HBW9 BW9
      go_wp2_with fail
      refine (RH.out _).mono ?_
      rintro e W12 ⟨rfl, hb⟩
      have HBW12 := Below.thn HBW11 hb HBW11.size
      have BW12 := BW11.below hb
      clear hb HBW11 BW11
      go_wp2_with fail
      go_ret
      exact ⟨rfl, HBW12⟩
set_option maxHeartbeats 4000000 in
set_option maxRecDepth 20000 in
theorem bodies_long (key body s : ByteArray) (id nonce seq : Nat) (down : Bool) (h : (100 : Int) < max (body.size : Int) (s.size : Int) ∨ (70 : Int) < (key.size : Int)) (w : World) :
    Calls Try.prog 9 #[.string key, .int .u64 (id : Int), .int .u64 (nonce : Int), .int .u64 (seq : Int), .bool down, .string body, .string s] w fun e w' => e = .returned (.bool true) ∧ Below w.heap.size w w' := by
  by_cases h1 : (100 : Int) < max (body.size : Int) (s.size : Int)
  · clear h
    go_enter Try.func9, Try.ntmps9
    go_wp2_with fail
    refine (awake07_any _).mono ?_
    rintro e W1 ⟨rfl, HB1⟩
    go_wp2_with fail
    go_ret
    exact ⟨rfl, HB1⟩
  · have h2 : (70 : Int) < (key.size : Int) := h.resolve_left h1
    clear h
    go_enter Try.func9, Try.ntmps9
    go_wp2_with fail
    refine (awake07_any _).mono ?_
    rintro e W1 ⟨rfl, HB1⟩
    go_wp2_with fail
    go_ret
    exact ⟨rfl, HB1⟩
end Go.Proofs.Ytkblkdojmfgneaa
