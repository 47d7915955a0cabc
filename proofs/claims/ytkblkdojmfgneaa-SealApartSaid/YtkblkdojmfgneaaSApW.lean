/- SealApart: the walk. -/
import Derived.Test.YtkblkdojmfgneaaSealB
namespace Go.Proofs.Ytkblkdojmfgneaa
open Go.RowKit

theorem set_self (L : List UInt8) (k : Nat) (h : k < L.length) : L.set k (L.getD k 0) = L := by
  rw [List.getD_eq_getElem?_getD, List.getElem?_eq_getElem h]
  exact List.set_getElem_self h
theorem openB_long (key : ByteArray) (id nonce : Nat) (s : ByteArray) (h : 16 ≤ s.size) : openB key id nonce s = (⟨#[]⟩, 8) ∨ (openB key id nonce s).2 = 0 := by
  unfold openB
  rw [if_neg (by omega)]
  by_cases he : tagB key id nonce (s.extract 0 (s.size - 16)) = s.extract (s.size - 16) s.size
  · rw [if_pos he]; exact .inr rfl
  · rw [if_neg he]; exact .inl rfl
set_option maxHeartbeats 16000000 in
set_option maxRecDepth 20000 in
theorem apart_walk (key body : ByteArray) (a b m n at_ by_ : Nat) (ha : a ≤ 18446744073709551615) (hb : b ≤ 18446744073709551615) (hm : m ≤ 18446744073709551615) (hn : n ≤ 18446744073709551615) (hat : at_ ≤ 65535) (hby : by_ ≤ 255) (h1 : 1 ≤ key.size) (h64 : key.size ≤ 64) (hbd : body.size ≤ 100) (w : World) :
    Calls Try.prog 7 #[.string key, .int .u64 (a : Int), .int .u64 (b : Int), .int .u64 (m : Int), .int .u64 (n : Int), .string body, .int .u16 (at_ : Int), .int .u8 (by_ : Int)] w fun e w' => e = .returned (.bool true) ∧ Below w.heap.size w w' := by
  have g1 : ¬ (key.size : Int) < 1 := by omega
  have g2 : ¬ (64 : Int) < (key.size : Int) := by omega
  have g3 : ¬ (100 : Int) < (body.size : Int) := by omega
  have nw := fun W => snew_any key W h1 h64
  rw [show xcells (kcells (keysN (encK key) 10)).toArray (macK key) = boxK key from rfl] at nw
  have hsz := boxK_size key
  have hone := boxK_one key
  have se := fun W => seal_any key body a m ha hm (by omega) W
  have hss := sealB_size key a m body
  have hself := openB_sealB key a m body
  obtain ⟨S, hS⟩ : ∃ s, sealB key a m body = s := ⟨_, rfl⟩
  rw [hS] at se hss hself
  obtain ⟨ns, hns⟩ : ∃ s, S.size = s := ⟨_, rfl⟩
  have hnsi : (S.size : Int) = (ns : Int) := by omega
  have hns16 : ¬ (ns : Int) < 16 := by omega
  have hns116 : ns ≤ 116 := by omega
  have hns0 : ¬ ns = 0 := by omega
  obtain ⟨L, hL⟩ : ∃ l, S.data.toList = l := ⟨_, rfl⟩
  have hLl : L.length = ns := by rw [← hL]; exact hns
  obtain ⟨k, hk⟩ : ∃ k, at_ % ns = k := ⟨_, rfl⟩
  have hkn : k < ns := by rw [← hk]; exact Nat.mod_lt _ (by omega)
  have hki : (at_ : Int) % (ns : Int) = (k : Int) := by rw [← hk]; simp
  have hkni : (k : Int) < (ns : Int) := by omega
  obtain ⟨u, hu⟩ : ∃ u, L.getD k 0 = u := ⟨_, rfl⟩
  obtain ⟨yb, hyb⟩ : ∃ y : UInt8, y.toNat = by_ := ⟨UInt8.ofNat by_, by simp; omega⟩
  have e1 := sum_xor8 u yb
  rw [hyb] at e1
  obtain ⟨x, hx⟩ : ∃ x, u ^^^ yb = x := ⟨_, rfl⟩
  rw [hx] at e1
  obtain ⟨L2, hL2⟩ : ∃ l, L.set k x = l := ⟨_, rfl⟩
  have hL2l : L2.length = ns := by rw [← hL2, List.length_set]; exact hLl
  obtain ⟨C, hC⟩ : ∃ c : ByteArray, (⟨L2.toArray⟩ : ByteArray) = c := ⟨_, rfl⟩
  have hCs : C.size = ns := by rw [← hC, ba_size]; simpa using hL2l
  have hC0 : by_ = 0 → C = S := fun h => by
    rw [← hC, ← hL2]
    refine ba_ext ?_
    have hy0 : yb = 0 := UInt8.toNat_inj.1 (by rw [hyb, h]; rfl)
    have hxu : x = u := by rw [← hx, hy0, UInt8.xor_zero]
    show L.set k x = S.data.toList
    rw [hL, hxu, ← hu]
    exact set_self L k (by omega)
  obtain ⟨D, hD⟩ : ∃ d, S.extract 0 (ns - 1) = d := ⟨_, rfl⟩
  obtain ⟨n1, hn1⟩ : ∃ q, ns - 1 = q := ⟨_, rfl⟩
  have hn1i : (ns : Int) - 1 = (n1 : Int) := by omega
  have hn1l : (n1 : Int) ≤ (ns : Int) := by omega
  have hDs : D.size ≤ 116 := by rw [← hD, sz_ext]; omega
  rw [hn1] at hD
  have ro1 := fun W => ropen_any key S b n (by omega) hb hn (by omega) W
  have ro2 := fun W => ropen_any key C a m (by omega) ha hm (by omega) W
  have ro3 := fun W => ropen_any key D a m (by omega) ha hm (by omega) W
  have op1 := fun W => open_any key S b n hb hn (by omega) W
  have op2 := fun W => open_any key C a m ha hm (by omega) W
  have op3 := fun W => open_any key D a m ha hm (by omega) W
  have hsame : a = b ∧ m = n → openB key b n S = (body, 0) := fun h => by rw [← h.1, ← h.2]; exact hself
  have hCC : by_ = 0 → openB key a m C = (body, 0) := fun h => by rw [hC0 h]; exact hself
  have h8 : openB key b n S = (⟨#[]⟩, 8) ∨ (openB key b n S).2 = 0 := openB_long key b n S (by omega)
  obtain ⟨KB, hKB⟩ : ∃ c, boxK key = c := ⟨_, rfl⟩
  rw [hKB] at nw hsz hone se op1 op2 op3
  obtain ⟨⟨y1, z1⟩, hO1⟩ : ∃ k, openB key b n S = k := ⟨_, rfl⟩
  obtain ⟨⟨y2, z2⟩, hO2⟩ : ∃ k, openB key a m C = k := ⟨_, rfl⟩
  obtain ⟨⟨y3, z3⟩, hO3⟩ : ∃ k, openB key a m D = k := ⟨_, rfl⟩
  rw [hO1] at ro1 op1 hsame h8; rw [hO2] at ro2 op2 hCC; rw [hO3] at ro3 op3
  simp only [Prod.mk.injEq] at ro1 ro2 ro3 op1 op2 op3 hsame h8 hCC
  have hzs := zbox_size
  have NW := Lib.hid nw; have SE := Lib.hid se; have RO1 := Lib.hid ro1; have RO2 := Lib.hid ro2; have RO3 := Lib.hid ro3; have OP1 := Lib.hid op1; have OP2 := Lib.hid op2; have OP3 := Lib.hid op3
  have HSN := Lib.hid (And.intro hns hL); have HLL := Lib.hid hLl; have HU := Lib.hid hu; have HLS := Lib.hid hL2; have HL2 := Lib.hid hL2l; have HC := Lib.hid hC
  have hSb : S.size ≤ 116 := by omega
  have HSAME := Lib.hid hsame; have HCC := Lib.hid hCC; have H8 := Lib.hid h8
  clear nw se ro1 ro2 ro3 op1 op2 op3 hss hself hS hns hL hLl hk hu hyb hx hL2 hL2l hC hCs hC0 hDs hn1 hsame hCC h8 hO1 hO2 hO3 hKB
  go_enter Try.func7, Try.ntmps7
  go_wp2_with fail
  refine (awake07_any _).mono ?_
  rintro e W1 ⟨rfl, HB1⟩
  go_wp2_with fail
  refine (NW.out _).mono ?_
  rintro e W3 ⟨rfl, hb⟩
  have HB3 := Below.thn HB1 hb HB1.size
  have hs3 := HB3.size
  clear hb HB1
  go_upto_region 6 with (refine wpList_put rfl 51 _ _ rfl W3.heap.size _ _ 51 rfl rfl (Blk.new _ _ _) (by rw [hsz]; kernel_rfl) (hsz.trans hzs.symm) hone (fun W4 hp4 B4 => ?_))
  (try simp only [Act.put])
  have HB4 : Below w.heap.size w W4 := hp4.below hs3 (by (repeat (first | (with_reducible assumption) | (with_reducible exact Below.refl _ _) | with_reducible apply bl_drewN | with_reducible apply Below.drew | (with_reducible apply bl_alloc; focus (first | (simp; done) | (simp; omega) | omega)) | (with_reducible apply bl_set; focus (first | (simp; done) | (simp; omega) | omega)))))
  obtain ⟨bb, hbb⟩ : ∃ b, W3.heap.size = b := ⟨_, rfl⟩
  rw [hbb] at B4 hs3 ⊢
  clear hp4 hbb HB3
  go_wp2_with (refine wpList_load_row rfl 51 _ rfl bb rfl 51 _ (0, 0) _ B4.out Try.underlying51 rfl (by rw [hsz]; kernel_rfl) ?_)
  refine (SE.out _).mono ?_
  rintro e W5 ⟨rfl, hb⟩
  have HB5 := Below.thn HB4 hb HB4.size
  have B5 := B4.below hb
  clear hb HB4 B4
  go_upto_region 9 with fail
  obtain ⟨v6, W6, hcv6, hrow6, hb6⟩ := conv_crow S W5 9 36 5 Try.underlying9 Try.underlying36 Try.underlying5 (by omega)
  rw [HSN.out.1, HSN.out.2] at hrow6
  have HB6 := Below.thn HB5 hb6 HB5.size
  have B6 := B5.below hb6
  have hbl6 := B5.lt
  have hs5 := HB5.size
  obtain ⟨rb, cap, rfl, hrb, R6⟩ := hrow6.bytes
  have hcap : ns ≤ cap := by
    obtain ⟨_, g, c2, cur, fr, h2, _, _, h5, _⟩ := hrow6
    simp only [Value.slice.injEq] at h2
    omega
  have hL1 := HSN.out.2
  clear hrow6 hb6 HB5 B5
  have c6 : W6.cell? ⟨rb, k, none⟩ = some (.int .u8 ((u.toNat : Nat) : Int)) := by
    rw [R6.cell k (by rw [HLL.out]; exact hkn), HU.out]; rfl
  have f6 := R6.frz k (by rw [HLL.out]; exact hkn)
  have hrl6 := R6.lt
  have R7 : BRow (W6.setCell ⟨rb, k, none⟩ (.int .u8 ((x.toNat : Nat) : Int))) rb L2 := by
    rw [← HLS.out]; exact R6.set (by rw [HLL.out]; exact hkn) x
  have B7 := B6.set_ne (a := ⟨rb, k, none⟩) (v := .int .u8 ((x.toNat : Nat) : Int)) (by show bb ≠ rb; omega)
  have HB7 := HB6.setCell (p := ⟨rb, k, none⟩) (by show w.heap.size ≤ rb; omega) (.int .u8 ((x.toNat : Nat) : Int))
  clear HB6 B6 R6
  go_upto_region 11 with fail
  refine wp_absQ (fun W => Below w.heap.size w W ∧ Blk W bb KB 51 ∧ BRow W rb L2) ⟨HB7, B7, R7⟩ (fun W8 V8 => ?_)
  obtain ⟨HB8, B8, R8⟩ := V8
  clear HB7 B7 R7 c6 f6 hcv6 hL1 hrl6
  go_wp2_with fail
  refine (RO1.out _).mono ?_
  rintro e W9 ⟨rfl, hb⟩
  have HBW9 := Below.thn HB8 hb HB8.size
  have BW9 := B8.below hb
  have RW9 := R8.below hb
  clear hb HB8 B8 R8
  by_cases hab : a = b
  · subst hab
    by_cases hmn : m = n
    · subst hmn
      obtain ⟨hy1, hz1⟩ := HSAME.out ⟨rfl, rfl⟩
      subst hy1
      subst hz1
      have hcvW9 : (convert 36 9 (.slice (some ⟨rb, 0, none⟩) ns cap)).run Try.prog W9 = .ok (.string C) W9 := by
        have h5 := Lib.run_convert_whole (P := Try.prog) W9 36 5 9 Try.underlying36 Try.underlying5 Try.underlying9 rb 0 ⟨L2.toArray⟩ (row_bytes RW9) cap
        rw [show (⟨L2.toArray⟩ : ByteArray).size = ns by rw [ba_size]; simpa using HL2.out, HC.out] at h5
        exact h5
      go_wp2_with fail
      refine (RO2.out _).mono ?_
      rintro e W10 ⟨rfl, hb⟩
      have HBW10 := Below.thn HBW9 hb HBW9.size
      have BW10 := BW9.below hb
      have RW10 := RW9.below hb
      clear hb HBW9 BW9 RW9
      by_cases hb0 : by_ = 0
      · obtain ⟨hy2, hz2⟩ := HCC.out hb0
        have hb0i : (by_ : Int) = 0 := by omega
        subst hy2
        subst hz2
        clear hb0
        go_wp2_with fail
        refine (RO3.out _).mono ?_
        rintro e W11 ⟨rfl, hb⟩
        have HBW11 := Below.thn HBW10 hb HBW10.size
        have BW11 := BW10.below hb
        have RW11 := RW10.below hb
        clear hb HBW10 BW10 RW10
        by_cases hz3 : z3 = 0
        · have hz3i : (z3 : Int) = 0 := by omega
          clear hz3
          go_wp2_with fail
          go_ret
          exact ⟨rfl, HBW11⟩
        · have hz3i : ¬ (z3 : Int) = 0 := by omega
          have hz3b : ((z3 : Int) != 0) = true := by simpa using hz3
          clear hz3
          go_wp2_with (refine wpList_load_row rfl 51 _ rfl bb rfl 51 _ (0, 0) _ BW11.out Try.underlying51 rfl (by rw [hsz]; kernel_rfl) ?_)
          refine (OP1.out _).mono ?_
          rintro e W12 ⟨rfl, hb⟩
          have HBW12 := Below.thn HBW11 hb HBW11.size
          have BW12 := BW11.below hb
          have RW12 := RW11.below hb
          clear hb HBW11 BW11 RW11
          have hcvW12 : (convert 36 9 (.slice (some ⟨rb, 0, none⟩) ns cap)).run Try.prog W12 = .ok (.string C) W12 := by
            have h5 := Lib.run_convert_whole (P := Try.prog) W12 36 5 9 Try.underlying36 Try.underlying5 Try.underlying9 rb 0 ⟨L2.toArray⟩ (row_bytes RW12) cap
            rw [show (⟨L2.toArray⟩ : ByteArray).size = ns by rw [ba_size]; simpa using HL2.out, HC.out] at h5
            exact h5
          go_wp2_with (refine wpList_load_row rfl 51 _ rfl bb rfl 51 _ (0, 0) _ BW12.out Try.underlying51 rfl (by rw [hsz]; kernel_rfl) ?_)
          refine (OP2.out _).mono ?_
          rintro e W13 ⟨rfl, hb⟩
          have HBW13 := Below.thn HBW12 hb HBW12.size
          have BW13 := BW12.below hb
          have RW13 := RW12.below hb
          clear hb HBW12 BW12 RW12
          go_wp2_with fail
          refine wp_region_typed 12 (fun k => match k with  | _ => []) (fun k => match k with | 11 => true | _ => false) (fun k => match k with | 0 => some ⟨(Unit), (()), (fun _ => .agg KB), (fun _ _ => True), (fun _ _ _ h _ => h)⟩ | 8 => some ⟨(Unit), (()), (fun _ => .tuple #[.string y3, .int .i64 (z3 : Int)]), (fun _ _ => True), (fun _ _ _ h _ => h)⟩ | _ => none) (by kernel_rfl) (by kernel_rfl) (by intro d0 v0 c0 a0 w0 h0; first | (cases d0 <;> exact h0) | exact hP _ _ _ _ _ h0) ?_
          rw [show List.range 12 = [0, 1, 2, 3, 4, 5, 6, 7, 8, 9, 10, 11] from rfl]
          refine ty_rel rfl rfl _ rfl rfl (fun wq hq hk => ?_) ?_
          · exact rel_load_blk _ _ rfl bb rfl KB _ (BW13.gr hq) _ Try.underlying51 rfl (by rw [hsz]; kernel_rfl) (.mk (Below.refl _ _) () rfl trivial)
          rintro ⟨⟩
          (try simp only [Act.put, List.setIfInBounds_toArray, List.set_cons_zero, List.set_cons_succ])
          first
            | (refine ty_skip rfl rfl ?_; (try simp only [Act.put, List.setIfInBounds_toArray, List.set_cons_zero, List.set_cons_succ]))
            | (refine ty_pure rfl rfl rfl rfl ?_; apply Exists.intro; refine ⟨fun wq hq hk => ?_, ?_⟩
               · simp only [pureAt]; go_simp; (try simp only [↓IntWalk.iteOmega]); (try go_bits); (try simp only [pureUpon]); (first | done | exact ⟨rfl, rfl⟩ | exact ⟨trivial, rfl⟩ | rfl)
               (try simp only [Act.put, List.setIfInBounds_toArray, List.set_cons_zero, List.set_cons_succ]))
          first
            | (refine ty_skip rfl rfl ?_; (try simp only [Act.put, List.setIfInBounds_toArray, List.set_cons_zero, List.set_cons_succ]))
            | (refine ty_pure rfl rfl rfl rfl ?_; apply Exists.intro; refine ⟨fun wq hq hk => ?_, ?_⟩
               · simp only [pureAt]; go_simp; (try simp only [↓IntWalk.iteOmega]); (try go_bits); (try simp only [pureUpon]); (first | done | exact ⟨rfl, rfl⟩ | exact ⟨trivial, rfl⟩ | rfl)
               (try simp only [Act.put, List.setIfInBounds_toArray, List.set_cons_zero, List.set_cons_succ]))
          first
            | (refine ty_skip rfl rfl ?_; (try simp only [Act.put, List.setIfInBounds_toArray, List.set_cons_zero, List.set_cons_succ]))
            | (refine ty_pure rfl rfl rfl rfl ?_; apply Exists.intro; refine ⟨fun wq hq hk => ?_, ?_⟩
               · simp only [pureAt]; go_simp; (try simp only [↓IntWalk.iteOmega]); (try go_bits); (try simp only [pureUpon]); (first | done | exact ⟨rfl, rfl⟩ | exact ⟨trivial, rfl⟩ | rfl)
               (try simp only [Act.put, List.setIfInBounds_toArray, List.set_cons_zero, List.set_cons_succ]))
          first
            | (refine ty_skip rfl rfl ?_; (try simp only [Act.put, List.setIfInBounds_toArray, List.set_cons_zero, List.set_cons_succ]))
            | (refine ty_pure rfl rfl rfl rfl ?_; apply Exists.intro; refine ⟨fun wq hq hk => ?_, ?_⟩
               · simp only [pureAt]; go_simp; (try simp only [↓IntWalk.iteOmega]); (try go_bits); (try simp only [pureUpon]); (first | done | exact ⟨rfl, rfl⟩ | exact ⟨trivial, rfl⟩ | rfl)
               (try simp only [Act.put, List.setIfInBounds_toArray, List.set_cons_zero, List.set_cons_succ]))
          first
            | (refine ty_skip rfl rfl ?_; (try simp only [Act.put, List.setIfInBounds_toArray, List.set_cons_zero, List.set_cons_succ]))
            | (refine ty_pure rfl rfl rfl rfl ?_; apply Exists.intro; refine ⟨fun wq hq hk => ?_, ?_⟩
               · simp only [pureAt]; go_simp; (try simp only [↓IntWalk.iteOmega]); (try go_bits); (try simp only [pureUpon]); (first | done | exact ⟨rfl, rfl⟩ | exact ⟨trivial, rfl⟩ | rfl)
               (try simp only [Act.put, List.setIfInBounds_toArray, List.set_cons_zero, List.set_cons_succ]))
          first
            | (refine ty_skip rfl rfl ?_; (try simp only [Act.put, List.setIfInBounds_toArray, List.set_cons_zero, List.set_cons_succ]))
            | (refine ty_pure rfl rfl rfl rfl ?_; apply Exists.intro; refine ⟨fun wq hq hk => ?_, ?_⟩
               · simp only [pureAt]; go_simp; (try simp only [↓IntWalk.iteOmega]); (try go_bits); (try simp only [pureUpon]); (first | done | exact ⟨rfl, rfl⟩ | exact ⟨trivial, rfl⟩ | rfl)
               (try simp only [Act.put, List.setIfInBounds_toArray, List.set_cons_zero, List.set_cons_succ]))
          first
            | (refine ty_skip rfl rfl ?_; (try simp only [Act.put, List.setIfInBounds_toArray, List.set_cons_zero, List.set_cons_succ]))
            | (refine ty_pure rfl rfl rfl rfl ?_; apply Exists.intro; refine ⟨fun wq hq hk => ?_, ?_⟩
               · simp only [pureAt]; go_simp; (try simp only [↓IntWalk.iteOmega]); (try go_bits); (try simp only [pureUpon]); (first | done | exact ⟨rfl, rfl⟩ | exact ⟨trivial, rfl⟩ | rfl)
               (try simp only [Act.put, List.setIfInBounds_toArray, List.set_cons_zero, List.set_cons_succ]))
          refine ty_rel rfl rfl _ rfl rfl (fun wq hq hk => ?_) ?_
          · simp only [relAt]; go_simp; (try simp only [relUpon]); (go_at_call 29; refine (OP3.out _).mono ?_; rintro e w9 ⟨rfl, hb9⟩; exact ⟨_, rfl, .mk hb9 () rfl trivial⟩)
          rintro ⟨⟩
          (try simp only [Act.put, List.setIfInBounds_toArray, List.set_cons_zero, List.set_cons_succ])
          first
            | (refine ty_skip rfl rfl ?_; (try simp only [Act.put, List.setIfInBounds_toArray, List.set_cons_zero, List.set_cons_succ]))
            | (refine ty_pure rfl rfl rfl rfl ?_; apply Exists.intro; refine ⟨fun wq hq hk => ?_, ?_⟩
               · simp only [pureAt]; go_simp; (try simp only [↓IntWalk.iteOmega]); (try go_bits); (try simp only [pureUpon]); (first | done | exact ⟨rfl, rfl⟩ | exact ⟨trivial, rfl⟩ | rfl)
               (try simp only [Act.put, List.setIfInBounds_toArray, List.set_cons_zero, List.set_cons_succ]))
          first
            | (refine ty_skip rfl rfl ?_; (try simp only [Act.put, List.setIfInBounds_toArray, List.set_cons_zero, List.set_cons_succ]))
            | (refine ty_pure rfl rfl rfl rfl ?_; apply Exists.intro; refine ⟨fun wq hq hk => ?_, ?_⟩
               · simp only [pureAt]; go_simp; (try simp only [↓IntWalk.iteOmega]); (try go_bits); (try simp only [pureUpon]); (first | done | exact ⟨rfl, rfl⟩ | exact ⟨trivial, rfl⟩ | rfl)
               (try simp only [Act.put, List.setIfInBounds_toArray, List.set_cons_zero, List.set_cons_succ]))
          first
            | (refine ty_skip rfl rfl ?_; (try simp only [Act.put, List.setIfInBounds_toArray, List.set_cons_zero, List.set_cons_succ]))
            | (refine ty_late rfl rfl rfl ?_; apply Exists.intro; refine ⟨fun wq => ?_, ?_⟩
               · simp only [pureAt]; go_simp; (try simp only [↓IntWalk.iteOmega]); (try go_bits); (try simp only [pureUpon]); (first | done | exact ⟨rfl, rfl⟩ | exact ⟨trivial, rfl⟩ | rfl)
               (try simp only [Act.put, List.setIfInBounds_toArray, List.set_cons_zero, List.set_cons_succ]))
          refine ty_nil ?_
          simp only [List.drop_succ_cons, List.drop_zero]
          intro W14 hw14 hΓ
          have HBW14 := Below.thn HBW13 hw14.out HBW13.size
          clear hΓ hw14 HBW13 BW13 RW13
          go_wp2_with fail
          go_ret
          exact ⟨by first | rfl | (show Ending.returned (Value.bool ((z3 : Int) != 0)) = _; rw [hz3b]), HBW14⟩
      · have hb0i : ¬ (by_ : Int) = 0 := by omega
        clear hb0
        by_cases hz2 : z2 = 0
        · have hz2i : (z2 : Int) = 0 := by omega
          clear hz2
          go_wp2_with fail
          go_ret
          exact ⟨rfl, HBW10⟩
        · have hz2i : ¬ (z2 : Int) = 0 := by omega
          have hz2b : ((z2 : Int) == 0) = false := by simpa using hz2
          have hb0b : ((by_ : Int) == 0) = false := by simpa using hb0i
          clear hz2
          go_wp2_with fail
          refine (RO3.out _).mono ?_
          rintro e W11 ⟨rfl, hb⟩
          have HBW11 := Below.thn HBW10 hb HBW10.size
          have BW11 := BW10.below hb
          have RW11 := RW10.below hb
          clear hb HBW10 BW10 RW10
          by_cases hz3 : z3 = 0
          · have hz3i : (z3 : Int) = 0 := by omega
            clear hz3
            go_wp2_with fail
            go_ret
            exact ⟨rfl, HBW11⟩
          · have hz3i : ¬ (z3 : Int) = 0 := by omega
            have hz3b : ((z3 : Int) != 0) = true := by simpa using hz3
            clear hz3
            go_wp2_with (refine wpList_load_row rfl 51 _ rfl bb rfl 51 _ (0, 0) _ BW11.out Try.underlying51 rfl (by rw [hsz]; kernel_rfl) ?_)
            refine (OP1.out _).mono ?_
            rintro e W12 ⟨rfl, hb⟩
            have HBW12 := Below.thn HBW11 hb HBW11.size
            have BW12 := BW11.below hb
            have RW12 := RW11.below hb
            clear hb HBW11 BW11 RW11
            have hcvW12 : (convert 36 9 (.slice (some ⟨rb, 0, none⟩) ns cap)).run Try.prog W12 = .ok (.string C) W12 := by
              have h5 := Lib.run_convert_whole (P := Try.prog) W12 36 5 9 Try.underlying36 Try.underlying5 Try.underlying9 rb 0 ⟨L2.toArray⟩ (row_bytes RW12) cap
              rw [show (⟨L2.toArray⟩ : ByteArray).size = ns by rw [ba_size]; simpa using HL2.out, HC.out] at h5
              exact h5
            go_wp2_with (refine wpList_load_row rfl 51 _ rfl bb rfl 51 _ (0, 0) _ BW12.out Try.underlying51 rfl (by rw [hsz]; kernel_rfl) ?_)
            refine (OP2.out _).mono ?_
            rintro e W13 ⟨rfl, hb⟩
            have HBW13 := Below.thn HBW12 hb HBW12.size
            have BW13 := BW12.below hb
            have RW13 := RW12.below hb
            clear hb HBW12 BW12 RW12
            go_wp2_with fail
            refine wp_region_typed 12 (fun k => match k with  | _ => []) (fun k => match k with | 11 => true | _ => false) (fun k => match k with | 0 => some ⟨(Unit), (()), (fun _ => .agg KB), (fun _ _ => True), (fun _ _ _ h _ => h)⟩ | 8 => some ⟨(Unit), (()), (fun _ => .tuple #[.string y3, .int .i64 (z3 : Int)]), (fun _ _ => True), (fun _ _ _ h _ => h)⟩ | _ => none) (by kernel_rfl) (by kernel_rfl) (by intro d0 v0 c0 a0 w0 h0; first | (cases d0 <;> exact h0) | exact hP _ _ _ _ _ h0) ?_
            rw [show List.range 12 = [0, 1, 2, 3, 4, 5, 6, 7, 8, 9, 10, 11] from rfl]
            refine ty_rel rfl rfl _ rfl rfl (fun wq hq hk => ?_) ?_
            · exact rel_load_blk _ _ rfl bb rfl KB _ (BW13.gr hq) _ Try.underlying51 rfl (by rw [hsz]; kernel_rfl) (.mk (Below.refl _ _) () rfl trivial)
            rintro ⟨⟩
            (try simp only [Act.put, List.setIfInBounds_toArray, List.set_cons_zero, List.set_cons_succ])
            first
              | (refine ty_skip rfl rfl ?_; (try simp only [Act.put, List.setIfInBounds_toArray, List.set_cons_zero, List.set_cons_succ]))
              | (refine ty_pure rfl rfl rfl rfl ?_; apply Exists.intro; refine ⟨fun wq hq hk => ?_, ?_⟩
                 · simp only [pureAt]; go_simp; (try simp only [↓IntWalk.iteOmega]); (try go_bits); (try simp only [pureUpon]); (first | done | exact ⟨rfl, rfl⟩ | exact ⟨trivial, rfl⟩ | rfl)
                 (try simp only [Act.put, List.setIfInBounds_toArray, List.set_cons_zero, List.set_cons_succ]))
            first
              | (refine ty_skip rfl rfl ?_; (try simp only [Act.put, List.setIfInBounds_toArray, List.set_cons_zero, List.set_cons_succ]))
              | (refine ty_pure rfl rfl rfl rfl ?_; apply Exists.intro; refine ⟨fun wq hq hk => ?_, ?_⟩
                 · simp only [pureAt]; go_simp; (try simp only [↓IntWalk.iteOmega]); (try go_bits); (try simp only [pureUpon]); (first | done | exact ⟨rfl, rfl⟩ | exact ⟨trivial, rfl⟩ | rfl)
                 (try simp only [Act.put, List.setIfInBounds_toArray, List.set_cons_zero, List.set_cons_succ]))
            first
              | (refine ty_skip rfl rfl ?_; (try simp only [Act.put, List.setIfInBounds_toArray, List.set_cons_zero, List.set_cons_succ]))
              | (refine ty_pure rfl rfl rfl rfl ?_; apply Exists.intro; refine ⟨fun wq hq hk => ?_, ?_⟩
                 · simp only [pureAt]; go_simp; (try simp only [↓IntWalk.iteOmega]); (try go_bits); (try simp only [pureUpon]); (first | done | exact ⟨rfl, rfl⟩ | exact ⟨trivial, rfl⟩ | rfl)
                 (try simp only [Act.put, List.setIfInBounds_toArray, List.set_cons_zero, List.set_cons_succ]))
            first
              | (refine ty_skip rfl rfl ?_; (try simp only [Act.put, List.setIfInBounds_toArray, List.set_cons_zero, List.set_cons_succ]))
              | (refine ty_pure rfl rfl rfl rfl ?_; apply Exists.intro; refine ⟨fun wq hq hk => ?_, ?_⟩
                 · simp only [pureAt]; go_simp; (try simp only [↓IntWalk.iteOmega]); (try go_bits); (try simp only [pureUpon]); (first | done | exact ⟨rfl, rfl⟩ | exact ⟨trivial, rfl⟩ | rfl)
                 (try simp only [Act.put, List.setIfInBounds_toArray, List.set_cons_zero, List.set_cons_succ]))
            first
              | (refine ty_skip rfl rfl ?_; (try simp only [Act.put, List.setIfInBounds_toArray, List.set_cons_zero, List.set_cons_succ]))
              | (refine ty_pure rfl rfl rfl rfl ?_; apply Exists.intro; refine ⟨fun wq hq hk => ?_, ?_⟩
                 · simp only [pureAt]; go_simp; (try simp only [↓IntWalk.iteOmega]); (try go_bits); (try simp only [pureUpon]); (first | done | exact ⟨rfl, rfl⟩ | exact ⟨trivial, rfl⟩ | rfl)
                 (try simp only [Act.put, List.setIfInBounds_toArray, List.set_cons_zero, List.set_cons_succ]))
            first
              | (refine ty_skip rfl rfl ?_; (try simp only [Act.put, List.setIfInBounds_toArray, List.set_cons_zero, List.set_cons_succ]))
              | (refine ty_pure rfl rfl rfl rfl ?_; apply Exists.intro; refine ⟨fun wq hq hk => ?_, ?_⟩
                 · simp only [pureAt]; go_simp; (try simp only [↓IntWalk.iteOmega]); (try go_bits); (try simp only [pureUpon]); (first | done | exact ⟨rfl, rfl⟩ | exact ⟨trivial, rfl⟩ | rfl)
                 (try simp only [Act.put, List.setIfInBounds_toArray, List.set_cons_zero, List.set_cons_succ]))
            first
              | (refine ty_skip rfl rfl ?_; (try simp only [Act.put, List.setIfInBounds_toArray, List.set_cons_zero, List.set_cons_succ]))
              | (refine ty_pure rfl rfl rfl rfl ?_; apply Exists.intro; refine ⟨fun wq hq hk => ?_, ?_⟩
                 · simp only [pureAt]; go_simp; (try simp only [↓IntWalk.iteOmega]); (try go_bits); (try simp only [pureUpon]); (first | done | exact ⟨rfl, rfl⟩ | exact ⟨trivial, rfl⟩ | rfl)
                 (try simp only [Act.put, List.setIfInBounds_toArray, List.set_cons_zero, List.set_cons_succ]))
            refine ty_rel rfl rfl _ rfl rfl (fun wq hq hk => ?_) ?_
            · simp only [relAt]; go_simp; (try simp only [relUpon]); (go_at_call 29; refine (OP3.out _).mono ?_; rintro e w9 ⟨rfl, hb9⟩; exact ⟨_, rfl, .mk hb9 () rfl trivial⟩)
            rintro ⟨⟩
            (try simp only [Act.put, List.setIfInBounds_toArray, List.set_cons_zero, List.set_cons_succ])
            first
              | (refine ty_skip rfl rfl ?_; (try simp only [Act.put, List.setIfInBounds_toArray, List.set_cons_zero, List.set_cons_succ]))
              | (refine ty_pure rfl rfl rfl rfl ?_; apply Exists.intro; refine ⟨fun wq hq hk => ?_, ?_⟩
                 · simp only [pureAt]; go_simp; (try simp only [↓IntWalk.iteOmega]); (try go_bits); (try simp only [pureUpon]); (first | done | exact ⟨rfl, rfl⟩ | exact ⟨trivial, rfl⟩ | rfl)
                 (try simp only [Act.put, List.setIfInBounds_toArray, List.set_cons_zero, List.set_cons_succ]))
            first
              | (refine ty_skip rfl rfl ?_; (try simp only [Act.put, List.setIfInBounds_toArray, List.set_cons_zero, List.set_cons_succ]))
              | (refine ty_pure rfl rfl rfl rfl ?_; apply Exists.intro; refine ⟨fun wq hq hk => ?_, ?_⟩
                 · simp only [pureAt]; go_simp; (try simp only [↓IntWalk.iteOmega]); (try go_bits); (try simp only [pureUpon]); (first | done | exact ⟨rfl, rfl⟩ | exact ⟨trivial, rfl⟩ | rfl)
                 (try simp only [Act.put, List.setIfInBounds_toArray, List.set_cons_zero, List.set_cons_succ]))
            first
              | (refine ty_skip rfl rfl ?_; (try simp only [Act.put, List.setIfInBounds_toArray, List.set_cons_zero, List.set_cons_succ]))
              | (refine ty_late rfl rfl rfl ?_; apply Exists.intro; refine ⟨fun wq => ?_, ?_⟩
                 · simp only [pureAt]; go_simp; (try simp only [↓IntWalk.iteOmega]); (try go_bits); (try simp only [pureUpon]); (first | done | exact ⟨rfl, rfl⟩ | exact ⟨trivial, rfl⟩ | rfl)
                 (try simp only [Act.put, List.setIfInBounds_toArray, List.set_cons_zero, List.set_cons_succ]))
            refine ty_nil ?_
            simp only [List.drop_succ_cons, List.drop_zero]
            intro W14 hw14 hΓ
            have HBW14 := Below.thn HBW13 hw14.out HBW13.size
            clear hΓ hw14 HBW13 BW13 RW13
            go_wp2_with fail
            go_ret
            exact ⟨by first | rfl | (show Ending.returned (Value.bool ((z3 : Int) != 0)) = _; rw [hz3b]), HBW14⟩
    · have hmni : ¬ (m : Int) = (n : Int) := by omega
      clear hmn
      rcases H8.out with ⟨hy1, hz1⟩ | hz1
      · subst hy1
        subst hz1
        have hcvW9 : (convert 36 9 (.slice (some ⟨rb, 0, none⟩) ns cap)).run Try.prog W9 = .ok (.string C) W9 := by
          have h5 := Lib.run_convert_whole (P := Try.prog) W9 36 5 9 Try.underlying36 Try.underlying5 Try.underlying9 rb 0 ⟨L2.toArray⟩ (row_bytes RW9) cap
          rw [show (⟨L2.toArray⟩ : ByteArray).size = ns by rw [ba_size]; simpa using HL2.out, HC.out] at h5
          exact h5
        go_wp2_with fail
        refine (RO2.out _).mono ?_
        rintro e W10 ⟨rfl, hb⟩
        have HBW10 := Below.thn HBW9 hb HBW9.size
        have BW10 := BW9.below hb
        have RW10 := RW9.below hb
        clear hb HBW9 BW9 RW9
        by_cases hb0 : by_ = 0
        · obtain ⟨hy2, hz2⟩ := HCC.out hb0
          have hb0i : (by_ : Int) = 0 := by omega
          subst hy2
          subst hz2
          clear hb0
          go_wp2_with fail
          refine (RO3.out _).mono ?_
          rintro e W11 ⟨rfl, hb⟩
          have HBW11 := Below.thn HBW10 hb HBW10.size
          have BW11 := BW10.below hb
          have RW11 := RW10.below hb
          clear hb HBW10 BW10 RW10
          by_cases hz3 : z3 = 0
          · have hz3i : (z3 : Int) = 0 := by omega
            clear hz3
            go_wp2_with fail
            go_ret
            exact ⟨rfl, HBW11⟩
          · have hz3i : ¬ (z3 : Int) = 0 := by omega
            have hz3b : ((z3 : Int) != 0) = true := by simpa using hz3
            clear hz3
            go_wp2_with (refine wpList_load_row rfl 51 _ rfl bb rfl 51 _ (0, 0) _ BW11.out Try.underlying51 rfl (by rw [hsz]; kernel_rfl) ?_)
            refine (OP1.out _).mono ?_
            rintro e W12 ⟨rfl, hb⟩
            have HBW12 := Below.thn HBW11 hb HBW11.size
            have BW12 := BW11.below hb
            have RW12 := RW11.below hb
            clear hb HBW11 BW11 RW11
            have hcvW12 : (convert 36 9 (.slice (some ⟨rb, 0, none⟩) ns cap)).run Try.prog W12 = .ok (.string C) W12 := by
              have h5 := Lib.run_convert_whole (P := Try.prog) W12 36 5 9 Try.underlying36 Try.underlying5 Try.underlying9 rb 0 ⟨L2.toArray⟩ (row_bytes RW12) cap
              rw [show (⟨L2.toArray⟩ : ByteArray).size = ns by rw [ba_size]; simpa using HL2.out, HC.out] at h5
              exact h5
            go_wp2_with (refine wpList_load_row rfl 51 _ rfl bb rfl 51 _ (0, 0) _ BW12.out Try.underlying51 rfl (by rw [hsz]; kernel_rfl) ?_)
            refine (OP2.out _).mono ?_
            rintro e W13 ⟨rfl, hb⟩
            have HBW13 := Below.thn HBW12 hb HBW12.size
            have BW13 := BW12.below hb
            have RW13 := RW12.below hb
            clear hb HBW12 BW12 RW12
            go_wp2_with fail
            refine wp_region_typed 12 (fun k => match k with  | _ => []) (fun k => match k with | 11 => true | _ => false) (fun k => match k with | 0 => some ⟨(Unit), (()), (fun _ => .agg KB), (fun _ _ => True), (fun _ _ _ h _ => h)⟩ | 8 => some ⟨(Unit), (()), (fun _ => .tuple #[.string y3, .int .i64 (z3 : Int)]), (fun _ _ => True), (fun _ _ _ h _ => h)⟩ | _ => none) (by kernel_rfl) (by kernel_rfl) (by intro d0 v0 c0 a0 w0 h0; first | (cases d0 <;> exact h0) | exact hP _ _ _ _ _ h0) ?_
            rw [show List.range 12 = [0, 1, 2, 3, 4, 5, 6, 7, 8, 9, 10, 11] from rfl]
            refine ty_rel rfl rfl _ rfl rfl (fun wq hq hk => ?_) ?_
            · exact rel_load_blk _ _ rfl bb rfl KB _ (BW13.gr hq) _ Try.underlying51 rfl (by rw [hsz]; kernel_rfl) (.mk (Below.refl _ _) () rfl trivial)
            rintro ⟨⟩
            (try simp only [Act.put, List.setIfInBounds_toArray, List.set_cons_zero, List.set_cons_succ])
            first
              | (refine ty_skip rfl rfl ?_; (try simp only [Act.put, List.setIfInBounds_toArray, List.set_cons_zero, List.set_cons_succ]))
              | (refine ty_pure rfl rfl rfl rfl ?_; apply Exists.intro; refine ⟨fun wq hq hk => ?_, ?_⟩
                 · simp only [pureAt]; go_simp; (try simp only [↓IntWalk.iteOmega]); (try go_bits); (try simp only [pureUpon]); (first | done | exact ⟨rfl, rfl⟩ | exact ⟨trivial, rfl⟩ | rfl)
                 (try simp only [Act.put, List.setIfInBounds_toArray, List.set_cons_zero, List.set_cons_succ]))
            first
              | (refine ty_skip rfl rfl ?_; (try simp only [Act.put, List.setIfInBounds_toArray, List.set_cons_zero, List.set_cons_succ]))
              | (refine ty_pure rfl rfl rfl rfl ?_; apply Exists.intro; refine ⟨fun wq hq hk => ?_, ?_⟩
                 · simp only [pureAt]; go_simp; (try simp only [↓IntWalk.iteOmega]); (try go_bits); (try simp only [pureUpon]); (first | done | exact ⟨rfl, rfl⟩ | exact ⟨trivial, rfl⟩ | rfl)
                 (try simp only [Act.put, List.setIfInBounds_toArray, List.set_cons_zero, List.set_cons_succ]))
            first
              | (refine ty_skip rfl rfl ?_; (try simp only [Act.put, List.setIfInBounds_toArray, List.set_cons_zero, List.set_cons_succ]))
              | (refine ty_pure rfl rfl rfl rfl ?_; apply Exists.intro; refine ⟨fun wq hq hk => ?_, ?_⟩
                 · simp only [pureAt]; go_simp; (try simp only [↓IntWalk.iteOmega]); (try go_bits); (try simp only [pureUpon]); (first | done | exact ⟨rfl, rfl⟩ | exact ⟨trivial, rfl⟩ | rfl)
                 (try simp only [Act.put, List.setIfInBounds_toArray, List.set_cons_zero, List.set_cons_succ]))
            first
              | (refine ty_skip rfl rfl ?_; (try simp only [Act.put, List.setIfInBounds_toArray, List.set_cons_zero, List.set_cons_succ]))
              | (refine ty_pure rfl rfl rfl rfl ?_; apply Exists.intro; refine ⟨fun wq hq hk => ?_, ?_⟩
                 · simp only [pureAt]; go_simp; (try simp only [↓IntWalk.iteOmega]); (try go_bits); (try simp only [pureUpon]); (first | done | exact ⟨rfl, rfl⟩ | exact ⟨trivial, rfl⟩ | rfl)
                 (try simp only [Act.put, List.setIfInBounds_toArray, List.set_cons_zero, List.set_cons_succ]))
            first
              | (refine ty_skip rfl rfl ?_; (try simp only [Act.put, List.setIfInBounds_toArray, List.set_cons_zero, List.set_cons_succ]))
              | (refine ty_pure rfl rfl rfl rfl ?_; apply Exists.intro; refine ⟨fun wq hq hk => ?_, ?_⟩
                 · simp only [pureAt]; go_simp; (try simp only [↓IntWalk.iteOmega]); (try go_bits); (try simp only [pureUpon]); (first | done | exact ⟨rfl, rfl⟩ | exact ⟨trivial, rfl⟩ | rfl)
                 (try simp only [Act.put, List.setIfInBounds_toArray, List.set_cons_zero, List.set_cons_succ]))
            first
              | (refine ty_skip rfl rfl ?_; (try simp only [Act.put, List.setIfInBounds_toArray, List.set_cons_zero, List.set_cons_succ]))
              | (refine ty_pure rfl rfl rfl rfl ?_; apply Exists.intro; refine ⟨fun wq hq hk => ?_, ?_⟩
                 · simp only [pureAt]; go_simp; (try simp only [↓IntWalk.iteOmega]); (try go_bits); (try simp only [pureUpon]); (first | done | exact ⟨rfl, rfl⟩ | exact ⟨trivial, rfl⟩ | rfl)
                 (try simp only [Act.put, List.setIfInBounds_toArray, List.set_cons_zero, List.set_cons_succ]))
            first
              | (refine ty_skip rfl rfl ?_; (try simp only [Act.put, List.setIfInBounds_toArray, List.set_cons_zero, List.set_cons_succ]))
              | (refine ty_pure rfl rfl rfl rfl ?_; apply Exists.intro; refine ⟨fun wq hq hk => ?_, ?_⟩
                 · simp only [pureAt]; go_simp; (try simp only [↓IntWalk.iteOmega]); (try go_bits); (try simp only [pureUpon]); (first | done | exact ⟨rfl, rfl⟩ | exact ⟨trivial, rfl⟩ | rfl)
                 (try simp only [Act.put, List.setIfInBounds_toArray, List.set_cons_zero, List.set_cons_succ]))
            refine ty_rel rfl rfl _ rfl rfl (fun wq hq hk => ?_) ?_
            · simp only [relAt]; go_simp; (try simp only [relUpon]); (go_at_call 29; refine (OP3.out _).mono ?_; rintro e w9 ⟨rfl, hb9⟩; exact ⟨_, rfl, .mk hb9 () rfl trivial⟩)
            rintro ⟨⟩
            (try simp only [Act.put, List.setIfInBounds_toArray, List.set_cons_zero, List.set_cons_succ])
            first
              | (refine ty_skip rfl rfl ?_; (try simp only [Act.put, List.setIfInBounds_toArray, List.set_cons_zero, List.set_cons_succ]))
              | (refine ty_pure rfl rfl rfl rfl ?_; apply Exists.intro; refine ⟨fun wq hq hk => ?_, ?_⟩
                 · simp only [pureAt]; go_simp; (try simp only [↓IntWalk.iteOmega]); (try go_bits); (try simp only [pureUpon]); (first | done | exact ⟨rfl, rfl⟩ | exact ⟨trivial, rfl⟩ | rfl)
                 (try simp only [Act.put, List.setIfInBounds_toArray, List.set_cons_zero, List.set_cons_succ]))
            first
              | (refine ty_skip rfl rfl ?_; (try simp only [Act.put, List.setIfInBounds_toArray, List.set_cons_zero, List.set_cons_succ]))
              | (refine ty_pure rfl rfl rfl rfl ?_; apply Exists.intro; refine ⟨fun wq hq hk => ?_, ?_⟩
                 · simp only [pureAt]; go_simp; (try simp only [↓IntWalk.iteOmega]); (try go_bits); (try simp only [pureUpon]); (first | done | exact ⟨rfl, rfl⟩ | exact ⟨trivial, rfl⟩ | rfl)
                 (try simp only [Act.put, List.setIfInBounds_toArray, List.set_cons_zero, List.set_cons_succ]))
            first
              | (refine ty_skip rfl rfl ?_; (try simp only [Act.put, List.setIfInBounds_toArray, List.set_cons_zero, List.set_cons_succ]))
              | (refine ty_late rfl rfl rfl ?_; apply Exists.intro; refine ⟨fun wq => ?_, ?_⟩
                 · simp only [pureAt]; go_simp; (try simp only [↓IntWalk.iteOmega]); (try go_bits); (try simp only [pureUpon]); (first | done | exact ⟨rfl, rfl⟩ | exact ⟨trivial, rfl⟩ | rfl)
                 (try simp only [Act.put, List.setIfInBounds_toArray, List.set_cons_zero, List.set_cons_succ]))
            refine ty_nil ?_
            simp only [List.drop_succ_cons, List.drop_zero]
            intro W14 hw14 hΓ
            have HBW14 := Below.thn HBW13 hw14.out HBW13.size
            clear hΓ hw14 HBW13 BW13 RW13
            go_wp2_with fail
            go_ret
            exact ⟨by first | rfl | (show Ending.returned (Value.bool ((z3 : Int) != 0)) = _; rw [hz3b]), HBW14⟩
        · have hb0i : ¬ (by_ : Int) = 0 := by omega
          clear hb0
          by_cases hz2 : z2 = 0
          · have hz2i : (z2 : Int) = 0 := by omega
            clear hz2
            go_wp2_with fail
            go_ret
            exact ⟨rfl, HBW10⟩
          · have hz2i : ¬ (z2 : Int) = 0 := by omega
            have hz2b : ((z2 : Int) == 0) = false := by simpa using hz2
            have hb0b : ((by_ : Int) == 0) = false := by simpa using hb0i
            clear hz2
            go_wp2_with fail
            refine (RO3.out _).mono ?_
            rintro e W11 ⟨rfl, hb⟩
            have HBW11 := Below.thn HBW10 hb HBW10.size
            have BW11 := BW10.below hb
            have RW11 := RW10.below hb
            clear hb HBW10 BW10 RW10
            by_cases hz3 : z3 = 0
            · have hz3i : (z3 : Int) = 0 := by omega
              clear hz3
              go_wp2_with fail
              go_ret
              exact ⟨rfl, HBW11⟩
            · have hz3i : ¬ (z3 : Int) = 0 := by omega
              have hz3b : ((z3 : Int) != 0) = true := by simpa using hz3
              clear hz3
              go_wp2_with (refine wpList_load_row rfl 51 _ rfl bb rfl 51 _ (0, 0) _ BW11.out Try.underlying51 rfl (by rw [hsz]; kernel_rfl) ?_)
              refine (OP1.out _).mono ?_
              rintro e W12 ⟨rfl, hb⟩
              have HBW12 := Below.thn HBW11 hb HBW11.size
              have BW12 := BW11.below hb
              have RW12 := RW11.below hb
              clear hb HBW11 BW11 RW11
              have hcvW12 : (convert 36 9 (.slice (some ⟨rb, 0, none⟩) ns cap)).run Try.prog W12 = .ok (.string C) W12 := by
                have h5 := Lib.run_convert_whole (P := Try.prog) W12 36 5 9 Try.underlying36 Try.underlying5 Try.underlying9 rb 0 ⟨L2.toArray⟩ (row_bytes RW12) cap
                rw [show (⟨L2.toArray⟩ : ByteArray).size = ns by rw [ba_size]; simpa using HL2.out, HC.out] at h5
                exact h5
              go_wp2_with (refine wpList_load_row rfl 51 _ rfl bb rfl 51 _ (0, 0) _ BW12.out Try.underlying51 rfl (by rw [hsz]; kernel_rfl) ?_)
              refine (OP2.out _).mono ?_
              rintro e W13 ⟨rfl, hb⟩
              have HBW13 := Below.thn HBW12 hb HBW12.size
              have BW13 := BW12.below hb
              have RW13 := RW12.below hb
              clear hb HBW12 BW12 RW12
              go_wp2_with fail
              refine wp_region_typed 12 (fun k => match k with  | _ => []) (fun k => match k with | 11 => true | _ => false) (fun k => match k with | 0 => some ⟨(Unit), (()), (fun _ => .agg KB), (fun _ _ => True), (fun _ _ _ h _ => h)⟩ | 8 => some ⟨(Unit), (()), (fun _ => .tuple #[.string y3, .int .i64 (z3 : Int)]), (fun _ _ => True), (fun _ _ _ h _ => h)⟩ | _ => none) (by kernel_rfl) (by kernel_rfl) (by intro d0 v0 c0 a0 w0 h0; first | (cases d0 <;> exact h0) | exact hP _ _ _ _ _ h0) ?_
              rw [show List.range 12 = [0, 1, 2, 3, 4, 5, 6, 7, 8, 9, 10, 11] from rfl]
              refine ty_rel rfl rfl _ rfl rfl (fun wq hq hk => ?_) ?_
              · exact rel_load_blk _ _ rfl bb rfl KB _ (BW13.gr hq) _ Try.underlying51 rfl (by rw [hsz]; kernel_rfl) (.mk (Below.refl _ _) () rfl trivial)
              rintro ⟨⟩
              (try simp only [Act.put, List.setIfInBounds_toArray, List.set_cons_zero, List.set_cons_succ])
              first
                | (refine ty_skip rfl rfl ?_; (try simp only [Act.put, List.setIfInBounds_toArray, List.set_cons_zero, List.set_cons_succ]))
                | (refine ty_pure rfl rfl rfl rfl ?_; apply Exists.intro; refine ⟨fun wq hq hk => ?_, ?_⟩
                   · simp only [pureAt]; go_simp; (try simp only [↓IntWalk.iteOmega]); (try go_bits); (try simp only [pureUpon]); (first | done | exact ⟨rfl, rfl⟩ | exact ⟨trivial, rfl⟩ | rfl)
                   (try simp only [Act.put, List.setIfInBounds_toArray, List.set_cons_zero, List.set_cons_succ]))
              first
                | (refine ty_skip rfl rfl ?_; (try simp only [Act.put, List.setIfInBounds_toArray, List.set_cons_zero, List.set_cons_succ]))
                | (refine ty_pure rfl rfl rfl rfl ?_; apply Exists.intro; refine ⟨fun wq hq hk => ?_, ?_⟩
                   · simp only [pureAt]; go_simp; (try simp only [↓IntWalk.iteOmega]); (try go_bits); (try simp only [pureUpon]); (first | done | exact ⟨rfl, rfl⟩ | exact ⟨trivial, rfl⟩ | rfl)
                   (try simp only [Act.put, List.setIfInBounds_toArray, List.set_cons_zero, List.set_cons_succ]))
              first
                | (refine ty_skip rfl rfl ?_; (try simp only [Act.put, List.setIfInBounds_toArray, List.set_cons_zero, List.set_cons_succ]))
                | (refine ty_pure rfl rfl rfl rfl ?_; apply Exists.intro; refine ⟨fun wq hq hk => ?_, ?_⟩
                   · simp only [pureAt]; go_simp; (try simp only [↓IntWalk.iteOmega]); (try go_bits); (try simp only [pureUpon]); (first | done | exact ⟨rfl, rfl⟩ | exact ⟨trivial, rfl⟩ | rfl)
                   (try simp only [Act.put, List.setIfInBounds_toArray, List.set_cons_zero, List.set_cons_succ]))
              first
                | (refine ty_skip rfl rfl ?_; (try simp only [Act.put, List.setIfInBounds_toArray, List.set_cons_zero, List.set_cons_succ]))
                | (refine ty_pure rfl rfl rfl rfl ?_; apply Exists.intro; refine ⟨fun wq hq hk => ?_, ?_⟩
                   · simp only [pureAt]; go_simp; (try simp only [↓IntWalk.iteOmega]); (try go_bits); (try simp only [pureUpon]); (first | done | exact ⟨rfl, rfl⟩ | exact ⟨trivial, rfl⟩ | rfl)
                   (try simp only [Act.put, List.setIfInBounds_toArray, List.set_cons_zero, List.set_cons_succ]))
              first
                | (refine ty_skip rfl rfl ?_; (try simp only [Act.put, List.setIfInBounds_toArray, List.set_cons_zero, List.set_cons_succ]))
                | (refine ty_pure rfl rfl rfl rfl ?_; apply Exists.intro; refine ⟨fun wq hq hk => ?_, ?_⟩
                   · simp only [pureAt]; go_simp; (try simp only [↓IntWalk.iteOmega]); (try go_bits); (try simp only [pureUpon]); (first | done | exact ⟨rfl, rfl⟩ | exact ⟨trivial, rfl⟩ | rfl)
                   (try simp only [Act.put, List.setIfInBounds_toArray, List.set_cons_zero, List.set_cons_succ]))
              first
                | (refine ty_skip rfl rfl ?_; (try simp only [Act.put, List.setIfInBounds_toArray, List.set_cons_zero, List.set_cons_succ]))
                | (refine ty_pure rfl rfl rfl rfl ?_; apply Exists.intro; refine ⟨fun wq hq hk => ?_, ?_⟩
                   · simp only [pureAt]; go_simp; (try simp only [↓IntWalk.iteOmega]); (try go_bits); (try simp only [pureUpon]); (first | done | exact ⟨rfl, rfl⟩ | exact ⟨trivial, rfl⟩ | rfl)
                   (try simp only [Act.put, List.setIfInBounds_toArray, List.set_cons_zero, List.set_cons_succ]))
              first
                | (refine ty_skip rfl rfl ?_; (try simp only [Act.put, List.setIfInBounds_toArray, List.set_cons_zero, List.set_cons_succ]))
                | (refine ty_pure rfl rfl rfl rfl ?_; apply Exists.intro; refine ⟨fun wq hq hk => ?_, ?_⟩
                   · simp only [pureAt]; go_simp; (try simp only [↓IntWalk.iteOmega]); (try go_bits); (try simp only [pureUpon]); (first | done | exact ⟨rfl, rfl⟩ | exact ⟨trivial, rfl⟩ | rfl)
                   (try simp only [Act.put, List.setIfInBounds_toArray, List.set_cons_zero, List.set_cons_succ]))
              refine ty_rel rfl rfl _ rfl rfl (fun wq hq hk => ?_) ?_
              · simp only [relAt]; go_simp; (try simp only [relUpon]); (go_at_call 29; refine (OP3.out _).mono ?_; rintro e w9 ⟨rfl, hb9⟩; exact ⟨_, rfl, .mk hb9 () rfl trivial⟩)
              rintro ⟨⟩
              (try simp only [Act.put, List.setIfInBounds_toArray, List.set_cons_zero, List.set_cons_succ])
              first
                | (refine ty_skip rfl rfl ?_; (try simp only [Act.put, List.setIfInBounds_toArray, List.set_cons_zero, List.set_cons_succ]))
                | (refine ty_pure rfl rfl rfl rfl ?_; apply Exists.intro; refine ⟨fun wq hq hk => ?_, ?_⟩
                   · simp only [pureAt]; go_simp; (try simp only [↓IntWalk.iteOmega]); (try go_bits); (try simp only [pureUpon]); (first | done | exact ⟨rfl, rfl⟩ | exact ⟨trivial, rfl⟩ | rfl)
                   (try simp only [Act.put, List.setIfInBounds_toArray, List.set_cons_zero, List.set_cons_succ]))
              first
                | (refine ty_skip rfl rfl ?_; (try simp only [Act.put, List.setIfInBounds_toArray, List.set_cons_zero, List.set_cons_succ]))
                | (refine ty_pure rfl rfl rfl rfl ?_; apply Exists.intro; refine ⟨fun wq hq hk => ?_, ?_⟩
                   · simp only [pureAt]; go_simp; (try simp only [↓IntWalk.iteOmega]); (try go_bits); (try simp only [pureUpon]); (first | done | exact ⟨rfl, rfl⟩ | exact ⟨trivial, rfl⟩ | rfl)
                   (try simp only [Act.put, List.setIfInBounds_toArray, List.set_cons_zero, List.set_cons_succ]))
              first
                | (refine ty_skip rfl rfl ?_; (try simp only [Act.put, List.setIfInBounds_toArray, List.set_cons_zero, List.set_cons_succ]))
                | (refine ty_late rfl rfl rfl ?_; apply Exists.intro; refine ⟨fun wq => ?_, ?_⟩
                   · simp only [pureAt]; go_simp; (try simp only [↓IntWalk.iteOmega]); (try go_bits); (try simp only [pureUpon]); (first | done | exact ⟨rfl, rfl⟩ | exact ⟨trivial, rfl⟩ | rfl)
                   (try simp only [Act.put, List.setIfInBounds_toArray, List.set_cons_zero, List.set_cons_succ]))
              refine ty_nil ?_
              simp only [List.drop_succ_cons, List.drop_zero]
              intro W14 hw14 hΓ
              have HBW14 := Below.thn HBW13 hw14.out HBW13.size
              clear hΓ hw14 HBW13 BW13 RW13
              go_wp2_with fail
              go_ret
              exact ⟨by first | rfl | (show Ending.returned (Value.bool ((z3 : Int) != 0)) = _; rw [hz3b]), HBW14⟩
      · subst hz1
        go_wp2_with fail
        go_ret
        exact ⟨rfl, HBW9⟩
  · have habi : ¬ (a : Int) = (b : Int) := by omega
    clear hab
    rcases H8.out with ⟨hy1, hz1⟩ | hz1
    · subst hy1
      subst hz1
      have hcvW9 : (convert 36 9 (.slice (some ⟨rb, 0, none⟩) ns cap)).run Try.prog W9 = .ok (.string C) W9 := by
        have h5 := Lib.run_convert_whole (P := Try.prog) W9 36 5 9 Try.underlying36 Try.underlying5 Try.underlying9 rb 0 ⟨L2.toArray⟩ (row_bytes RW9) cap
        rw [show (⟨L2.toArray⟩ : ByteArray).size = ns by rw [ba_size]; simpa using HL2.out, HC.out] at h5
        exact h5
      go_wp2_with fail
      refine (RO2.out _).mono ?_
      rintro e W10 ⟨rfl, hb⟩
      have HBW10 := Below.thn HBW9 hb HBW9.size
      have BW10 := BW9.below hb
      have RW10 := RW9.below hb
      clear hb HBW9 BW9 RW9
      by_cases hb0 : by_ = 0
      · obtain ⟨hy2, hz2⟩ := HCC.out hb0
        have hb0i : (by_ : Int) = 0 := by omega
        subst hy2
        subst hz2
        clear hb0
        go_wp2_with fail
        refine (RO3.out _).mono ?_
        rintro e W11 ⟨rfl, hb⟩
        have HBW11 := Below.thn HBW10 hb HBW10.size
        have BW11 := BW10.below hb
        have RW11 := RW10.below hb
        clear hb HBW10 BW10 RW10
        by_cases hz3 : z3 = 0
        · have hz3i : (z3 : Int) = 0 := by omega
          clear hz3
          go_wp2_with fail
          go_ret
          exact ⟨rfl, HBW11⟩
        · have hz3i : ¬ (z3 : Int) = 0 := by omega
          have hz3b : ((z3 : Int) != 0) = true := by simpa using hz3
          clear hz3
          go_wp2_with (refine wpList_load_row rfl 51 _ rfl bb rfl 51 _ (0, 0) _ BW11.out Try.underlying51 rfl (by rw [hsz]; kernel_rfl) ?_)
          refine (OP1.out _).mono ?_
          rintro e W12 ⟨rfl, hb⟩
          have HBW12 := Below.thn HBW11 hb HBW11.size
          have BW12 := BW11.below hb
          have RW12 := RW11.below hb
          clear hb HBW11 BW11 RW11
          have hcvW12 : (convert 36 9 (.slice (some ⟨rb, 0, none⟩) ns cap)).run Try.prog W12 = .ok (.string C) W12 := by
            have h5 := Lib.run_convert_whole (P := Try.prog) W12 36 5 9 Try.underlying36 Try.underlying5 Try.underlying9 rb 0 ⟨L2.toArray⟩ (row_bytes RW12) cap
            rw [show (⟨L2.toArray⟩ : ByteArray).size = ns by rw [ba_size]; simpa using HL2.out, HC.out] at h5
            exact h5
          go_wp2_with (refine wpList_load_row rfl 51 _ rfl bb rfl 51 _ (0, 0) _ BW12.out Try.underlying51 rfl (by rw [hsz]; kernel_rfl) ?_)
          refine (OP2.out _).mono ?_
          rintro e W13 ⟨rfl, hb⟩
          have HBW13 := Below.thn HBW12 hb HBW12.size
          have BW13 := BW12.below hb
          have RW13 := RW12.below hb
          clear hb HBW12 BW12 RW12
          go_wp2_with fail
          refine wp_region_typed 12 (fun k => match k with  | _ => []) (fun k => match k with | 11 => true | _ => false) (fun k => match k with | 0 => some ⟨(Unit), (()), (fun _ => .agg KB), (fun _ _ => True), (fun _ _ _ h _ => h)⟩ | 8 => some ⟨(Unit), (()), (fun _ => .tuple #[.string y3, .int .i64 (z3 : Int)]), (fun _ _ => True), (fun _ _ _ h _ => h)⟩ | _ => none) (by kernel_rfl) (by kernel_rfl) (by intro d0 v0 c0 a0 w0 h0; first | (cases d0 <;> exact h0) | exact hP _ _ _ _ _ h0) ?_
          rw [show List.range 12 = [0, 1, 2, 3, 4, 5, 6, 7, 8, 9, 10, 11] from rfl]
          refine ty_rel rfl rfl _ rfl rfl (fun wq hq hk => ?_) ?_
          · exact rel_load_blk _ _ rfl bb rfl KB _ (BW13.gr hq) _ Try.underlying51 rfl (by rw [hsz]; kernel_rfl) (.mk (Below.refl _ _) () rfl trivial)
          rintro ⟨⟩
          (try simp only [Act.put, List.setIfInBounds_toArray, List.set_cons_zero, List.set_cons_succ])
          first
            | (refine ty_skip rfl rfl ?_; (try simp only [Act.put, List.setIfInBounds_toArray, List.set_cons_zero, List.set_cons_succ]))
            | (refine ty_pure rfl rfl rfl rfl ?_; apply Exists.intro; refine ⟨fun wq hq hk => ?_, ?_⟩
               · simp only [pureAt]; go_simp; (try simp only [↓IntWalk.iteOmega]); (try go_bits); (try simp only [pureUpon]); (first | done | exact ⟨rfl, rfl⟩ | exact ⟨trivial, rfl⟩ | rfl)
               (try simp only [Act.put, List.setIfInBounds_toArray, List.set_cons_zero, List.set_cons_succ]))
          first
            | (refine ty_skip rfl rfl ?_; (try simp only [Act.put, List.setIfInBounds_toArray, List.set_cons_zero, List.set_cons_succ]))
            | (refine ty_pure rfl rfl rfl rfl ?_; apply Exists.intro; refine ⟨fun wq hq hk => ?_, ?_⟩
               · simp only [pureAt]; go_simp; (try simp only [↓IntWalk.iteOmega]); (try go_bits); (try simp only [pureUpon]); (first | done | exact ⟨rfl, rfl⟩ | exact ⟨trivial, rfl⟩ | rfl)
               (try simp only [Act.put, List.setIfInBounds_toArray, List.set_cons_zero, List.set_cons_succ]))
          first
            | (refine ty_skip rfl rfl ?_; (try simp only [Act.put, List.setIfInBounds_toArray, List.set_cons_zero, List.set_cons_succ]))
            | (refine ty_pure rfl rfl rfl rfl ?_; apply Exists.intro; refine ⟨fun wq hq hk => ?_, ?_⟩
               · simp only [pureAt]; go_simp; (try simp only [↓IntWalk.iteOmega]); (try go_bits); (try simp only [pureUpon]); (first | done | exact ⟨rfl, rfl⟩ | exact ⟨trivial, rfl⟩ | rfl)
               (try simp only [Act.put, List.setIfInBounds_toArray, List.set_cons_zero, List.set_cons_succ]))
          first
            | (refine ty_skip rfl rfl ?_; (try simp only [Act.put, List.setIfInBounds_toArray, List.set_cons_zero, List.set_cons_succ]))
            | (refine ty_pure rfl rfl rfl rfl ?_; apply Exists.intro; refine ⟨fun wq hq hk => ?_, ?_⟩
               · simp only [pureAt]; go_simp; (try simp only [↓IntWalk.iteOmega]); (try go_bits); (try simp only [pureUpon]); (first | done | exact ⟨rfl, rfl⟩ | exact ⟨trivial, rfl⟩ | rfl)
               (try simp only [Act.put, List.setIfInBounds_toArray, List.set_cons_zero, List.set_cons_succ]))
          first
            | (refine ty_skip rfl rfl ?_; (try simp only [Act.put, List.setIfInBounds_toArray, List.set_cons_zero, List.set_cons_succ]))
            | (refine ty_pure rfl rfl rfl rfl ?_; apply Exists.intro; refine ⟨fun wq hq hk => ?_, ?_⟩
               · simp only [pureAt]; go_simp; (try simp only [↓IntWalk.iteOmega]); (try go_bits); (try simp only [pureUpon]); (first | done | exact ⟨rfl, rfl⟩ | exact ⟨trivial, rfl⟩ | rfl)
               (try simp only [Act.put, List.setIfInBounds_toArray, List.set_cons_zero, List.set_cons_succ]))
          first
            | (refine ty_skip rfl rfl ?_; (try simp only [Act.put, List.setIfInBounds_toArray, List.set_cons_zero, List.set_cons_succ]))
            | (refine ty_pure rfl rfl rfl rfl ?_; apply Exists.intro; refine ⟨fun wq hq hk => ?_, ?_⟩
               · simp only [pureAt]; go_simp; (try simp only [↓IntWalk.iteOmega]); (try go_bits); (try simp only [pureUpon]); (first | done | exact ⟨rfl, rfl⟩ | exact ⟨trivial, rfl⟩ | rfl)
               (try simp only [Act.put, List.setIfInBounds_toArray, List.set_cons_zero, List.set_cons_succ]))
          first
            | (refine ty_skip rfl rfl ?_; (try simp only [Act.put, List.setIfInBounds_toArray, List.set_cons_zero, List.set_cons_succ]))
            | (refine ty_pure rfl rfl rfl rfl ?_; apply Exists.intro; refine ⟨fun wq hq hk => ?_, ?_⟩
               · simp only [pureAt]; go_simp; (try simp only [↓IntWalk.iteOmega]); (try go_bits); (try simp only [pureUpon]); (first | done | exact ⟨rfl, rfl⟩ | exact ⟨trivial, rfl⟩ | rfl)
               (try simp only [Act.put, List.setIfInBounds_toArray, List.set_cons_zero, List.set_cons_succ]))
          refine ty_rel rfl rfl _ rfl rfl (fun wq hq hk => ?_) ?_
          · simp only [relAt]; go_simp; (try simp only [relUpon]); (go_at_call 29; refine (OP3.out _).mono ?_; rintro e w9 ⟨rfl, hb9⟩; exact ⟨_, rfl, .mk hb9 () rfl trivial⟩)
          rintro ⟨⟩
          (try simp only [Act.put, List.setIfInBounds_toArray, List.set_cons_zero, List.set_cons_succ])
          first
            | (refine ty_skip rfl rfl ?_; (try simp only [Act.put, List.setIfInBounds_toArray, List.set_cons_zero, List.set_cons_succ]))
            | (refine ty_pure rfl rfl rfl rfl ?_; apply Exists.intro; refine ⟨fun wq hq hk => ?_, ?_⟩
               · simp only [pureAt]; go_simp; (try simp only [↓IntWalk.iteOmega]); (try go_bits); (try simp only [pureUpon]); (first | done | exact ⟨rfl, rfl⟩ | exact ⟨trivial, rfl⟩ | rfl)
               (try simp only [Act.put, List.setIfInBounds_toArray, List.set_cons_zero, List.set_cons_succ]))
          first
            | (refine ty_skip rfl rfl ?_; (try simp only [Act.put, List.setIfInBounds_toArray, List.set_cons_zero, List.set_cons_succ]))
            | (refine ty_pure rfl rfl rfl rfl ?_; apply Exists.intro; refine ⟨fun wq hq hk => ?_, ?_⟩
               · simp only [pureAt]; go_simp; (try simp only [↓IntWalk.iteOmega]); (try go_bits); (try simp only [pureUpon]); (first | done | exact ⟨rfl, rfl⟩ | exact ⟨trivial, rfl⟩ | rfl)
               (try simp only [Act.put, List.setIfInBounds_toArray, List.set_cons_zero, List.set_cons_succ]))
          first
            | (refine ty_skip rfl rfl ?_; (try simp only [Act.put, List.setIfInBounds_toArray, List.set_cons_zero, List.set_cons_succ]))
            | (refine ty_late rfl rfl rfl ?_; apply Exists.intro; refine ⟨fun wq => ?_, ?_⟩
               · simp only [pureAt]; go_simp; (try simp only [↓IntWalk.iteOmega]); (try go_bits); (try simp only [pureUpon]); (first | done | exact ⟨rfl, rfl⟩ | exact ⟨trivial, rfl⟩ | rfl)
               (try simp only [Act.put, List.setIfInBounds_toArray, List.set_cons_zero, List.set_cons_succ]))
          refine ty_nil ?_
          simp only [List.drop_succ_cons, List.drop_zero]
          intro W14 hw14 hΓ
          have HBW14 := Below.thn HBW13 hw14.out HBW13.size
          clear hΓ hw14 HBW13 BW13 RW13
          go_wp2_with fail
          go_ret
          exact ⟨by first | rfl | (show Ending.returned (Value.bool ((z3 : Int) != 0)) = _; rw [hz3b]), HBW14⟩
      · have hb0i : ¬ (by_ : Int) = 0 := by omega
        clear hb0
        by_cases hz2 : z2 = 0
        · have hz2i : (z2 : Int) = 0 := by omega
          clear hz2
          go_wp2_with fail
          go_ret
          exact ⟨rfl, HBW10⟩
        · have hz2i : ¬ (z2 : Int) = 0 := by omega
          have hz2b : ((z2 : Int) == 0) = false := by simpa using hz2
          have hb0b : ((by_ : Int) == 0) = false := by simpa using hb0i
          clear hz2
          go_wp2_with fail
          refine (RO3.out _).mono ?_
          rintro e W11 ⟨rfl, hb⟩
          have HBW11 := Below.thn HBW10 hb HBW10.size
          have BW11 := BW10.below hb
          have RW11 := RW10.below hb
          clear hb HBW10 BW10 RW10
          by_cases hz3 : z3 = 0
          · have hz3i : (z3 : Int) = 0 := by omega
            clear hz3
            go_wp2_with fail
            go_ret
            exact ⟨rfl, HBW11⟩
          · have hz3i : ¬ (z3 : Int) = 0 := by omega
            have hz3b : ((z3 : Int) != 0) = true := by simpa using hz3
            clear hz3
            go_wp2_with (refine wpList_load_row rfl 51 _ rfl bb rfl 51 _ (0, 0) _ BW11.out Try.underlying51 rfl (by rw [hsz]; kernel_rfl) ?_)
            refine (OP1.out _).mono ?_
            rintro e W12 ⟨rfl, hb⟩
            have HBW12 := Below.thn HBW11 hb HBW11.size
            have BW12 := BW11.below hb
            have RW12 := RW11.below hb
            clear hb HBW11 BW11 RW11
            have hcvW12 : (convert 36 9 (.slice (some ⟨rb, 0, none⟩) ns cap)).run Try.prog W12 = .ok (.string C) W12 := by
              have h5 := Lib.run_convert_whole (P := Try.prog) W12 36 5 9 Try.underlying36 Try.underlying5 Try.underlying9 rb 0 ⟨L2.toArray⟩ (row_bytes RW12) cap
              rw [show (⟨L2.toArray⟩ : ByteArray).size = ns by rw [ba_size]; simpa using HL2.out, HC.out] at h5
              exact h5
            go_wp2_with (refine wpList_load_row rfl 51 _ rfl bb rfl 51 _ (0, 0) _ BW12.out Try.underlying51 rfl (by rw [hsz]; kernel_rfl) ?_)
            refine (OP2.out _).mono ?_
            rintro e W13 ⟨rfl, hb⟩
            have HBW13 := Below.thn HBW12 hb HBW12.size
            have BW13 := BW12.below hb
            have RW13 := RW12.below hb
            clear hb HBW12 BW12 RW12
            go_wp2_with fail
            refine wp_region_typed 12 (fun k => match k with  | _ => []) (fun k => match k with | 11 => true | _ => false) (fun k => match k with | 0 => some ⟨(Unit), (()), (fun _ => .agg KB), (fun _ _ => True), (fun _ _ _ h _ => h)⟩ | 8 => some ⟨(Unit), (()), (fun _ => .tuple #[.string y3, .int .i64 (z3 : Int)]), (fun _ _ => True), (fun _ _ _ h _ => h)⟩ | _ => none) (by kernel_rfl) (by kernel_rfl) (by intro d0 v0 c0 a0 w0 h0; first | (cases d0 <;> exact h0) | exact hP _ _ _ _ _ h0) ?_
            rw [show List.range 12 = [0, 1, 2, 3, 4, 5, 6, 7, 8, 9, 10, 11] from rfl]
            refine ty_rel rfl rfl _ rfl rfl (fun wq hq hk => ?_) ?_
            · exact rel_load_blk _ _ rfl bb rfl KB _ (BW13.gr hq) _ Try.underlying51 rfl (by rw [hsz]; kernel_rfl) (.mk (Below.refl _ _) () rfl trivial)
            rintro ⟨⟩
            (try simp only [Act.put, List.setIfInBounds_toArray, List.set_cons_zero, List.set_cons_succ])
            first
              | (refine ty_skip rfl rfl ?_; (try simp only [Act.put, List.setIfInBounds_toArray, List.set_cons_zero, List.set_cons_succ]))
              | (refine ty_pure rfl rfl rfl rfl ?_; apply Exists.intro; refine ⟨fun wq hq hk => ?_, ?_⟩
                 · simp only [pureAt]; go_simp; (try simp only [↓IntWalk.iteOmega]); (try go_bits); (try simp only [pureUpon]); (first | done | exact ⟨rfl, rfl⟩ | exact ⟨trivial, rfl⟩ | rfl)
                 (try simp only [Act.put, List.setIfInBounds_toArray, List.set_cons_zero, List.set_cons_succ]))
            first
              | (refine ty_skip rfl rfl ?_; (try simp only [Act.put, List.setIfInBounds_toArray, List.set_cons_zero, List.set_cons_succ]))
              | (refine ty_pure rfl rfl rfl rfl ?_; apply Exists.intro; refine ⟨fun wq hq hk => ?_, ?_⟩
                 · simp only [pureAt]; go_simp; (try simp only [↓IntWalk.iteOmega]); (try go_bits); (try simp only [pureUpon]); (first | done | exact ⟨rfl, rfl⟩ | exact ⟨trivial, rfl⟩ | rfl)
                 (try simp only [Act.put, List.setIfInBounds_toArray, List.set_cons_zero, List.set_cons_succ]))
            first
              | (refine ty_skip rfl rfl ?_; (try simp only [Act.put, List.setIfInBounds_toArray, List.set_cons_zero, List.set_cons_succ]))
              | (refine ty_pure rfl rfl rfl rfl ?_; apply Exists.intro; refine ⟨fun wq hq hk => ?_, ?_⟩
                 · simp only [pureAt]; go_simp; (try simp only [↓IntWalk.iteOmega]); (try go_bits); (try simp only [pureUpon]); (first | done | exact ⟨rfl, rfl⟩ | exact ⟨trivial, rfl⟩ | rfl)
                 (try simp only [Act.put, List.setIfInBounds_toArray, List.set_cons_zero, List.set_cons_succ]))
            first
              | (refine ty_skip rfl rfl ?_; (try simp only [Act.put, List.setIfInBounds_toArray, List.set_cons_zero, List.set_cons_succ]))
              | (refine ty_pure rfl rfl rfl rfl ?_; apply Exists.intro; refine ⟨fun wq hq hk => ?_, ?_⟩
                 · simp only [pureAt]; go_simp; (try simp only [↓IntWalk.iteOmega]); (try go_bits); (try simp only [pureUpon]); (first | done | exact ⟨rfl, rfl⟩ | exact ⟨trivial, rfl⟩ | rfl)
                 (try simp only [Act.put, List.setIfInBounds_toArray, List.set_cons_zero, List.set_cons_succ]))
            first
              | (refine ty_skip rfl rfl ?_; (try simp only [Act.put, List.setIfInBounds_toArray, List.set_cons_zero, List.set_cons_succ]))
              | (refine ty_pure rfl rfl rfl rfl ?_; apply Exists.intro; refine ⟨fun wq hq hk => ?_, ?_⟩
                 · simp only [pureAt]; go_simp; (try simp only [↓IntWalk.iteOmega]); (try go_bits); (try simp only [pureUpon]); (first | done | exact ⟨rfl, rfl⟩ | exact ⟨trivial, rfl⟩ | rfl)
                 (try simp only [Act.put, List.setIfInBounds_toArray, List.set_cons_zero, List.set_cons_succ]))
            first
              | (refine ty_skip rfl rfl ?_; (try simp only [Act.put, List.setIfInBounds_toArray, List.set_cons_zero, List.set_cons_succ]))
              | (refine ty_pure rfl rfl rfl rfl ?_; apply Exists.intro; refine ⟨fun wq hq hk => ?_, ?_⟩
                 · simp only [pureAt]; go_simp; (try simp only [↓IntWalk.iteOmega]); (try go_bits); (try simp only [pureUpon]); (first | done | exact ⟨rfl, rfl⟩ | exact ⟨trivial, rfl⟩ | rfl)
                 (try simp only [Act.put, List.setIfInBounds_toArray, List.set_cons_zero, List.set_cons_succ]))
            first
              | (refine ty_skip rfl rfl ?_; (try simp only [Act.put, List.setIfInBounds_toArray, List.set_cons_zero, List.set_cons_succ]))
              | (refine ty_pure rfl rfl rfl rfl ?_; apply Exists.intro; refine ⟨fun wq hq hk => ?_, ?_⟩
                 · simp only [pureAt]; go_simp; (try simp only [↓IntWalk.iteOmega]); (try go_bits); (try simp only [pureUpon]); (first | done | exact ⟨rfl, rfl⟩ | exact ⟨trivial, rfl⟩ | rfl)
                 (try simp only [Act.put, List.setIfInBounds_toArray, List.set_cons_zero, List.set_cons_succ]))
            refine ty_rel rfl rfl _ rfl rfl (fun wq hq hk => ?_) ?_
            · simp only [relAt]; go_simp; (try simp only [relUpon]); (go_at_call 29; refine (OP3.out _).mono ?_; rintro e w9 ⟨rfl, hb9⟩; exact ⟨_, rfl, .mk hb9 () rfl trivial⟩)
            rintro ⟨⟩
            (try simp only [Act.put, List.setIfInBounds_toArray, List.set_cons_zero, List.set_cons_succ])
            first
              | (refine ty_skip rfl rfl ?_; (try simp only [Act.put, List.setIfInBounds_toArray, List.set_cons_zero, List.set_cons_succ]))
              | (refine ty_pure rfl rfl rfl rfl ?_; apply Exists.intro; refine ⟨fun wq hq hk => ?_, ?_⟩
                 · simp only [pureAt]; go_simp; (try simp only [↓IntWalk.iteOmega]); (try go_bits); (try simp only [pureUpon]); (first | done | exact ⟨rfl, rfl⟩ | exact ⟨trivial, rfl⟩ | rfl)
                 (try simp only [Act.put, List.setIfInBounds_toArray, List.set_cons_zero, List.set_cons_succ]))
            first
              | (refine ty_skip rfl rfl ?_; (try simp only [Act.put, List.setIfInBounds_toArray, List.set_cons_zero, List.set_cons_succ]))
              | (refine ty_pure rfl rfl rfl rfl ?_; apply Exists.intro; refine ⟨fun wq hq hk => ?_, ?_⟩
                 · simp only [pureAt]; go_simp; (try simp only [↓IntWalk.iteOmega]); (try go_bits); (try simp only [pureUpon]); (first | done | exact ⟨rfl, rfl⟩ | exact ⟨trivial, rfl⟩ | rfl)
                 (try simp only [Act.put, List.setIfInBounds_toArray, List.set_cons_zero, List.set_cons_succ]))
            first
              | (refine ty_skip rfl rfl ?_; (try simp only [Act.put, List.setIfInBounds_toArray, List.set_cons_zero, List.set_cons_succ]))
              | (refine ty_late rfl rfl rfl ?_; apply Exists.intro; refine ⟨fun wq => ?_, ?_⟩
                 · simp only [pureAt]; go_simp; (try simp only [↓IntWalk.iteOmega]); (try go_bits); (try simp only [pureUpon]); (first | done | exact ⟨rfl, rfl⟩ | exact ⟨trivial, rfl⟩ | rfl)
                 (try simp only [Act.put, List.setIfInBounds_toArray, List.set_cons_zero, List.set_cons_succ]))
            refine ty_nil ?_
            simp only [List.drop_succ_cons, List.drop_zero]
            intro W14 hw14 hΓ
            have HBW14 := Below.thn HBW13 hw14.out HBW13.size
            clear hΓ hw14 HBW13 BW13 RW13
            go_wp2_with fail
            go_ret
            exact ⟨by first | rfl | (show Ending.returned (Value.bool ((z3 : Int) != 0)) = _; rw [hz3b]), HBW14⟩
    · subst hz1
      go_wp2_with fail
      go_ret
      exact ⟨rfl, HBW9⟩
set_option maxHeartbeats 4000000 in
set_option maxRecDepth 20000 in
theorem apart_early (key body : ByteArray) (a b m n at_ by_ : Nat) (h : (key.size : Int) < 1 ∨ (64 : Int) < (key.size : Int) ∨ (100 : Int) < (body.size : Int)) (w : World) :
    Calls Try.prog 7 #[.string key, .int .u64 (a : Int), .int .u64 (b : Int), .int .u64 (m : Int), .int .u64 (n : Int), .string body, .int .u16 (at_ : Int), .int .u8 (by_ : Int)] w fun e w' => e = .returned (.bool true) ∧ Below w.heap.size w w' := by
  by_cases h1 : (key.size : Int) < 1
  · clear h
    go_enter Try.func7, Try.ntmps7
    go_wp2_with fail
    refine (awake07_any _).mono ?_
    rintro e W1 ⟨rfl, HB1⟩
    go_wp2_with fail
    go_ret
    exact ⟨rfl, HB1⟩
  · by_cases h2 : (64 : Int) < (key.size : Int)
    · clear h
      go_enter Try.func7, Try.ntmps7
      go_wp2_with fail
      refine (awake07_any _).mono ?_
      rintro e W1 ⟨rfl, HB1⟩
      go_wp2_with fail
      go_ret
      exact ⟨rfl, HB1⟩
    · have h3 : (100 : Int) < (body.size : Int) := by
        rcases h with h | h | h
        · exact absurd h h1
        · exact absurd h h2
        · exact h
      clear h
      go_enter Try.func7, Try.ntmps7
      go_wp2_with fail
      refine (awake07_any _).mono ?_
      rintro e W1 ⟨rfl, HB1⟩
      go_wp2_with fail
      go_ret
      exact ⟨rfl, HB1⟩
end Go.Proofs.Ytkblkdojmfgneaa
