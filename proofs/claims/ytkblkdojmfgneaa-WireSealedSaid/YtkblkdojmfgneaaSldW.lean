/- WireSealed: the walk. -/
import Derived.Test.YtkblkdojmfgneaaAwk9
namespace Go.Proofs.Ytkblkdojmfgneaa
open Go.RowKit
theorem prefix_head (id no : Nat) (s : ByteArray) (w : World) : Calls Try.prog 22 #[.string (gramB id no s), .string (headB id no)] w fun e w' => e = .returned (.bool true) ∧ Below w.heap.size w w' := by
  have h5 := Try.strings_HasPrefix (gramB id no s) (headB id no) w
  have e : Lib.hasPrefix (gramB id no s).data.toList (headB id no).data.toList = true := by
    unfold Lib.hasPrefix
    rw [List.isPrefixOf_iff_prefix, show gramB id no s = headB id no ++ s by rw [headB_gram]; rfl, ba_app]
    exact List.prefix_append _ _
  rw [e] at h5
  exact h5.mono (fun _ _ h => ⟨h.1, h.2 ▸ Below.refl _ _⟩)
set_option maxHeartbeats 8000000 in
set_option maxRecDepth 20000 in
theorem sealed_early (key : ByteArray) (id sq st rp nb : Nat) (down : Bool) (ix : Int) (la : Bool) (tx : ByteArray) (h : (key.size : Int) < 1 ∨ (64 : Int) < (key.size : Int) ∨ (9223372036854775807 : Int) < (sq : Int) ∨ ¬ chk ix tx = 0) (w : World) :
    Calls Try.prog 13 #[.string key, .int .u64 (id : Int), .int .u64 (sq : Int), .bool down, PV st rp nb ix la tx] w fun e w' => e = .returned (.bool true) ∧ Below w.heap.size w w' := by
  by_cases h1 : (key.size : Int) < 1
  · have d1 : decide ((key.size : Int) < 1) = true := decide_eq_true h1
    clear h h1
    go_enter Try.func13, Try.ntmps13
    go_wp2_with fail
    refine (awake09_any _).mono ?_
    rintro e W1 ⟨rfl, hb⟩
    have HB1 : Below w.heap.size w W1 := Below.thn (by (repeat (first | (with_reducible assumption) | (with_reducible exact Below.refl _ _) | with_reducible apply bl_drewN | with_reducible apply Below.drew | (with_reducible apply bl_alloc; focus (first | (simp; done) | (simp; omega) | omega)) | (with_reducible apply bl_set; focus (first | (simp; done) | (simp; omega) | omega))))) hb
    have B1 : Blk W1 w.heap.size (PC st rp nb ix la tx) 70 := Blk.below (Blk.new _ _ _) hb
    have B1c := B1.cell
    clear hb
    go_wp2_with fail
    go_ret
    exact ⟨rfl, HB1⟩
  have d1 : decide ((key.size : Int) < 1) = false := decide_eq_false h1
  by_cases h2 : (64 : Int) < (key.size : Int)
  · have d2 : decide ((64 : Int) < (key.size : Int)) = true := decide_eq_true h2
    clear h h1 h2
    go_enter Try.func13, Try.ntmps13
    go_wp2_with fail
    refine (awake09_any _).mono ?_
    rintro e W1 ⟨rfl, hb⟩
    have HB1 : Below w.heap.size w W1 := Below.thn (by (repeat (first | (with_reducible assumption) | (with_reducible exact Below.refl _ _) | with_reducible apply bl_drewN | with_reducible apply Below.drew | (with_reducible apply bl_alloc; focus (first | (simp; done) | (simp; omega) | omega)) | (with_reducible apply bl_set; focus (first | (simp; done) | (simp; omega) | omega))))) hb
    have B1 : Blk W1 w.heap.size (PC st rp nb ix la tx) 70 := Blk.below (Blk.new _ _ _) hb
    have B1c := B1.cell
    clear hb
    go_wp2_with fail
    go_ret
    exact ⟨rfl, HB1⟩
  have d2 : decide ((64 : Int) < (key.size : Int)) = false := decide_eq_false h2
  by_cases h3 : (9223372036854775807 : Int) < (sq : Int)
  · have d3 : decide ((9223372036854775807 : Int) < (sq : Int)) = true := decide_eq_true h3
    clear h h1 h2 h3
    go_enter Try.func13, Try.ntmps13
    go_wp2_with fail
    refine (awake09_any _).mono ?_
    rintro e W1 ⟨rfl, hb⟩
    have HB1 : Below w.heap.size w W1 := Below.thn (by (repeat (first | (with_reducible assumption) | (with_reducible exact Below.refl _ _) | with_reducible apply bl_drewN | with_reducible apply Below.drew | (with_reducible apply bl_alloc; focus (first | (simp; done) | (simp; omega) | omega)) | (with_reducible apply bl_set; focus (first | (simp; done) | (simp; omega) | omega))))) hb
    have B1 : Blk W1 w.heap.size (PC st rp nb ix la tx) 70 := Blk.below (Blk.new _ _ _) hb
    have B1c := B1.cell
    clear hb
    go_wp2_with fail
    go_ret
    exact ⟨rfl, HB1⟩
  have d3 : decide ((9223372036854775807 : Int) < (sq : Int)) = false := decide_eq_false h3
  have hz : ¬ chk ix tx = 0 := by
    rcases h with h | h | h | h
    · exact absurd h h1
    · exact absurd h h2
    · exact absurd h h3
    · exact h
  clear h
  have ck := fun W => rcheck_any st rp nb ix la tx W
  obtain ⟨z, hzz⟩ : ∃ z, chk ix tx = z := ⟨_, rfl⟩
  rw [hzz] at ck hz
  have hzi : ((z : Int) != 0) = true := by simp; omega
  have CK := Lib.hid ck
  clear ck hzz hz h1 h2 h3
  go_enter Try.func13, Try.ntmps13
  go_wp2_with fail
  refine (awake09_any _).mono ?_
  rintro e W1 ⟨rfl, hb⟩
  have HB1 : Below w.heap.size w W1 := Below.thn (by (repeat (first | (with_reducible assumption) | (with_reducible exact Below.refl _ _) | with_reducible apply bl_drewN | with_reducible apply Below.drew | (with_reducible apply bl_alloc; focus (first | (simp; done) | (simp; omega) | omega)) | (with_reducible apply bl_set; focus (first | (simp; done) | (simp; omega) | omega))))) hb
  have B1 : Blk W1 w.heap.size (PC st rp nb ix la tx) 70 := Blk.below (Blk.new _ _ _) hb
  have B1c := B1.cell
  clear hb
  go_wp2_with fail
  refine (CK.out _).mono ?_
  rintro e W2 ⟨rfl, hb⟩
  have HB2 := Below.thn HB1 hb HB1.size
  clear hb
  go_wp2_with fail
  go_ret
  exact ⟨rfl, HB2⟩
set_option maxHeartbeats 16000000 in
set_option maxRecDepth 20000 in
theorem sealed_walk (key : ByteArray) (id sq st rp nb m : Nat) (down la : Bool) (tx : ByteArray) (hk1 : 1 ≤ key.size) (hk2 : key.size ≤ 64) (hi : id ≤ 18446744073709551615) (hq : sq ≤ 9223372036854775807) (h1 : st ≤ 65535) (h2 : rp ≤ 65535) (h3 : nb ≤ 18446744073709551615) (hm : m < 32) (htx : tx.size ≤ 466) (w : World) :
    Calls Try.prog 13 #[.string key, .int .u64 (id : Int), .int .u64 (sq : Int), .bool down, PV st rp nb (m : Int) la tx] w fun e w' => e = .returned (.bool true) ∧ Below w.heap.size w w' := by
  have d1 : decide ((key.size : Int) < 1) = false := decide_eq_false (by omega)
  have d2 : decide ((64 : Int) < (key.size : Int)) = false := decide_eq_false (by omega)
  have d3 : decide ((9223372036854775807 : Int) < (sq : Int)) = false := decide_eq_false (by omega)
  have ck := fun W => rcheck_any st rp nb (m : Int) la tx W
  rw [chk_ok (by omega) (by omega) htx, show ((0 : Nat) : Int) = 0 from rfl] at ck
  have nn := fun W => nonce_any sq down W (by omega)
  rw [if_neg (show ¬ 9223372036854775807 < sq by omega), if_neg (show ¬ 9223372036854775807 < sq by omega)] at nn
  have sqq := fun W => seq_any (if down = true then sq + 9223372036854775808 else sq) W (by cases down <;> simp <;> omega)
  have e1 : (if down = true then sq + 9223372036854775808 else sq) % 9223372036854775808 = sq := by cases down <;> simp <;> omega
  have e2 : decide (9223372036854775808 ≤ (if down = true then sq + 9223372036854775808 else sq)) = down := by cases down <;> simp <;> omega
  rw [e1, e2] at sqq
  have hno : (if down = true then sq + 9223372036854775808 else sq) ≤ 18446744073709551615 := by cases down <;> simp <;> omega
  obtain ⟨no, hnv⟩ : ∃ k, (if down = true then sq + 9223372036854775808 else sq) = k := ⟨_, rfl⟩
  rw [hnv] at nn sqq hno
  have pb := fun W => pbytes_ok st rp nb m la tx (by omega) (by omega) h3 hm htx W
  have rd := fun W => read_any (partB st rp nb m la tx) (by rw [partB_size]; omega) (by rw [partB_size]; omega) W
  have her : rErr (partB st rp nb m la tx) = 0 := by
    unfold rErr
    rw [partB_size, if_neg (by omega), rIx_partB _ _ _ _ _ _ (by omega), rTx_partB]
    exact chk_ok (by omega) (by omega) htx
  unfold rdV at rd
  rw [her, if_pos rfl, rSt_partB _ _ _ _ _ _ (by omega), rRp_partB _ _ _ _ _ _ (by omega), rNb_partB _ _ _ _ _ _ (by omega), rIx_partB _ _ _ _ _ _ (by omega), rLa_partB _ _ _ _ _ _ (by omega), rTx_partB, show ((0 : Nat) : Int) = 0 from rfl] at rd
  have hTs := partB_size st rp nb m la tx
  obtain ⟨T, hT⟩ : ∃ k, partB st rp nb m la tx = k := ⟨_, rfl⟩
  rw [hT] at pb rd hTs
  have nw := fun W => snew_any key W hk1 hk2
  rw [show xcells (kcells (keysN (encK key) 10)).toArray (macK key) = boxK key from rfl] at nw
  have se := fun W => seal_any key T id no hi hno (by omega) W
  have hss := sealB_size key id no T
  have op := fun W => open_any key (sealB key id no T) id no hi hno (by omega) W
  rw [openB_sealB, show ((0 : Nat) : Int) = 0 from rfl] at op
  obtain ⟨S, hS⟩ : ∃ k, sealB key id no T = k := ⟨_, rfl⟩
  rw [hS] at se hss op
  have db := fun W => dbytes_ok id no S hi hno (by omega) (by omega) W
  have hd := fun W => head_any id no hi hno W
  have hp := fun W => prefix_head id no S W
  have pa := fun W => parse_ok (gramB id no S) (by rw [gramB_size]; omega) (by rw [gramB_size]; omega) W
  rw [gId_gramB _ _ _ (by omega), gNo_gramB _ _ _ (by omega), gSe_gramB] at pa
  obtain ⟨G, hG⟩ : ∃ k, gramB id no S = k := ⟨_, rfl⟩
  rw [hG] at db hp pa
  obtain ⟨H, hH⟩ : ∃ k, headB id no = k := ⟨_, rfl⟩
  rw [hH] at hd hp
  have hbv := boxK_size key
  have hone := boxK_one key
  obtain ⟨KB, hKB⟩ : ∃ k, boxK key = k := ⟨_, rfl⟩
  rw [hKB] at nw se op hbv hone
  have hzs := zbox_size
  have CK := Lib.hid ck; have NN := Lib.hid nn; have SQ := Lib.hid sqq; have PB := Lib.hid pb; have RD := Lib.hid rd; have NW := Lib.hid nw; have SE := Lib.hid se; have OP := Lib.hid op; have DB := Lib.hid db; have HD := Lib.hid hd; have HP := Lib.hid hp; have PA := Lib.hid pa
  clear ck nn sqq pb rd nw se op db hd hp pa her hT hTs hS hss hG hH hKB e1 e2 hnv
  generalize hix : (m : Int) = ix at *
  go_enter Try.func13, Try.ntmps13
  go_wp2_with fail
  refine (awake09_any _).mono ?_
  rintro e W1 ⟨rfl, hb⟩
  have HB1 : Below w.heap.size w W1 := Below.thn (by (repeat (first | (with_reducible assumption) | (with_reducible exact Below.refl _ _) | with_reducible apply bl_drewN | with_reducible apply Below.drew | (with_reducible apply bl_alloc; focus (first | (simp; done) | (simp; omega) | omega)) | (with_reducible apply bl_set; focus (first | (simp; done) | (simp; omega) | omega))))) hb
  have B1 : Blk W1 w.heap.size (PC st rp nb ix la tx) 70 := Blk.below (Blk.new _ _ _) hb
  have B1c := B1.cell
  clear hb
  go_wp2_with fail
  refine (CK.out _).mono ?_
  rintro e W2 ⟨rfl, hb⟩
  have HB2 := Below.thn HB1 hb HB1.size
  have B2 := B1.below hb
  clear hb HB1 B1 B1c
  go_wp2_with fail
  refine (NW.out _).mono ?_
  rintro e W3 ⟨rfl, hb⟩
  have HB3 := Below.thn HB2 hb HB2.size
  have hs3 := HB3.size
  have B3 := B2.below hb
  have hbl3 := B3.lt
  clear hb HB2 B2
  go_upto_region 6 with (refine wpList_put rfl 51 _ _ rfl W3.heap.size _ _ 51 rfl rfl (Blk.new _ _ _) (by rw [hbv]; kernel_rfl) (hbv.trans hzs.symm) hone (fun W4 hp4 K4 => ?_))
  (try simp only [Act.put])
  have HB4 : Below w.heap.size w W4 := hp4.below hs3 (by (repeat (first | (with_reducible assumption) | (with_reducible exact Below.refl _ _) | with_reducible apply bl_drewN | with_reducible apply Below.drew | (with_reducible apply bl_alloc; focus (first | (simp; done) | (simp; omega) | omega)) | (with_reducible apply bl_set; focus (first | (simp; done) | (simp; omega) | omega)))))
  have B4 : Blk W4 w.heap.size (PC st rp nb ix la tx) 70 := hp4.blk (by omega) (Blk.alloc B3)
  obtain ⟨bb, hbb⟩ : ∃ b, W3.heap.size = b := ⟨_, rfl⟩
  rw [hbb] at K4 ⊢
  clear hp4 hbb HB3 hs3 B3 hbl3
  have B4c := B4.cell
  go_wp2_with fail
  refine (NN.out _).mono ?_
  rintro e W5 ⟨rfl, hw5⟩
  subst hw5
  go_wp2_with fail
  refine (PB.out _).mono ?_
  rintro e W6 ⟨rfl, hb⟩
  clear B4c
  have HB6 := Below.thn HB4 hb HB4.size
  have B6 := B4.below hb
  have K6 := K4.below hb
  clear hb HB4 B4 K4
  go_wp2_with (refine wpList_load_row rfl 51 _ rfl bb rfl 51 _ (0, 0) _ K6.out Try.underlying51 rfl (by rw [hbv]; kernel_rfl) ?_)
  refine (SE.out _).mono ?_
  rintro e W7 ⟨rfl, hb⟩
  have HB7 := Below.thn HB6 hb HB6.size
  have B7 := B6.below hb
  have K7 := K6.below hb
  clear hb HB6 B6 K6
  go_wp2_with fail
  refine (DB.out _).mono ?_
  rintro e W8 ⟨rfl, hb⟩
  have HB8 := Below.thn HB7 hb HB7.size
  have B8 := B7.below hb
  have K8 := K7.below hb
  clear hb HB7 B7 K7
  go_wp2_with fail
  refine (HD.out _).mono ?_
  rintro e W9 ⟨rfl, hb⟩
  have HB9 := Below.thn HB8 hb HB8.size
  have B9 := B8.below hb
  have K9 := K8.below hb
  clear hb HB8 B8 K8
  go_wp2_with fail
  refine (HP.out _).mono ?_
  rintro e W10 ⟨rfl, hb⟩
  have HB10 := Below.thn HB9 hb HB9.size
  have B10 := B9.below hb
  have K10 := K9.below hb
  clear hb HB9 B9 K9
  go_wp2_with fail
  refine (PA.out _).mono ?_
  rintro e W11 ⟨rfl, hb⟩
  have HB11 := Below.thn HB10 hb HB10.size
  have B11 := B10.below hb
  have K11 := K10.below hb
  clear hb HB10 B10 K10
  have HBs11 := HB11.size
  have B11l := B11.lt; have K11l := K11.lt
  go_upto_region 12 with fail
  obtain ⟨bd, hbd⟩ : ∃ b, W11.heap.size = b := ⟨_, rfl⟩
  refine wp_absQ (fun W => Below w.heap.size w W ∧ Blk W w.heap.size (PC st rp nb ix la tx) 70 ∧ Blk W bb KB 51 ∧ Blk W bd (DC id no S) 81) ⟨by (repeat (first | (with_reducible assumption) | (with_reducible exact Below.refl _ _) | with_reducible apply bl_drewN | with_reducible apply Below.drew | (with_reducible apply bl_alloc; focus (first | (simp; done) | (simp; omega) | omega)) | (with_reducible apply bl_set; focus (first | (simp; done) | (simp; omega) | omega)))), by (repeat (first | (with_reducible assumption) | (with_reducible apply Blk.new'; (first | (with_reducible rfl) | (simp; done))) | with_reducible apply Blk.alloc | with_reducible apply Blk.set | ((with_reducible apply Blk.set_ne); focus (first | (simp; done) | (simp; omega))) | with_reducible apply Blk.drewN | with_reducible apply Blk.drew)), by (repeat (first | (with_reducible assumption) | (with_reducible apply Blk.new'; (first | (with_reducible rfl) | (simp; done))) | with_reducible apply Blk.alloc | with_reducible apply Blk.set | ((with_reducible apply Blk.set_ne); focus (first | (simp; done) | (simp; omega))) | with_reducible apply Blk.drewN | with_reducible apply Blk.drew)), by rw [← hbd]; (repeat (first | (with_reducible assumption) | (with_reducible apply Blk.new'; (first | (with_reducible rfl) | (simp; done))) | with_reducible apply Blk.alloc | with_reducible apply Blk.set | ((with_reducible apply Blk.set_ne); focus (first | (simp; done) | (simp; omega))) | with_reducible apply Blk.drewN | with_reducible apply Blk.drew))⟩ (fun W12 V12 => ?_)
  obtain ⟨HB12, B12, K12, D12⟩ := V12
  rw [hbd]
  clear hbd HB11 B11 K11 B11l K11l HBs11
  have D12c := D12.cell
  go_wp2_with (refine wpList_load_row rfl 51 _ rfl bb rfl 51 _ (0, 0) _ K12.out Try.underlying51 rfl (by rw [hbv]; kernel_rfl) ?_)
  refine (OP.out _).mono ?_
  rintro e W13 ⟨rfl, hb⟩
  have D13 := D12.below hb
  clear D12c D12
  have HB13 := Below.thn HB12 hb HB12.size
  have B13 := B12.below hb
  have K13 := K12.below hb
  clear hb HB12 B12 K12
  go_wp2_with fail
  refine (RD.out _).mono ?_
  rintro e W14 ⟨rfl, hb⟩
  have D14 := D13.below hb
  clear D13
  have HB14 := Below.thn HB13 hb HB13.size
  have B14 := B13.below hb
  have K14 := K13.below hb
  clear hb HB13 B13 K13
  have HBs14 := HB14.size
  have D14c := D14.cell; have D14l := D14.lt; have B14c := B14.cell; have B14l := B14.lt
  go_wp2_with fail
  refine (SQ.out _).mono ?_
  rintro e W15 ⟨rfl, hw15⟩
  subst hw15
  go_wp2_with fail
  go_ret
  exact ⟨rfl, by (repeat (first | (with_reducible assumption) | (with_reducible exact Below.refl _ _) | with_reducible apply bl_drewN | with_reducible apply Below.drew | (with_reducible apply bl_alloc; focus (first | (simp; done) | (simp; omega) | omega)) | (with_reducible apply bl_set; focus (first | (simp; done) | (simp; omega) | omega))))⟩
end Go.Proofs.Ytkblkdojmfgneaa
