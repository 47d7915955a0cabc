/- Package ctr: Turn. -/
import Derived.Test.YtkblkdojmfgneaaCtr3
namespace Go.Proofs.Ytkblkdojmfgneaa
open Go.RowKit

theorem turnS_at (key : List UInt8) (nonce : Nat) (L : List UInt8) (i k : Nat) (hk : key.length = 16) (h16 : k < 16) (h : 16 * i + k < L.length) : (turnS key nonce L).getD (16 * i + k) 0 = L.getD (16 * i + k) 0 ^^^ (strB key nonce i).getD k 0 := by
  have hl := strA_len key nonce hk i
  rw [turnS_get key nonce L _ hk h, streamL_more key nonce _ (i + 1) hk (by omega)]
  congr 1
  rw [List.getD_eq_getElem?_getD, List.getD_eq_getElem?_getD, List.getElem?_take_of_lt (by omega), strA, List.getElem?_append_right (by omega), hl, Nat.add_sub_cancel_left]
/-- Memory of a text that is being turned. -/
structure TuAt (w wr : World) (K : Array Value) (kb rb : Nat) (cur : List UInt8) : Prop where
  HB : Below kb w wr
  KB : Blk wr kb K 29
  R : BRow wr rb cur
  lt : kb < rb
theorem TuAt.below {w wr w' : World} {K : Array Value} {kb rb : Nat} {cur : List UInt8} (h : TuAt w wr K kb rb cur) (hb : Below wr.heap.size wr w') : TuAt w w' K kb rb cur :=
  ⟨Below.thn h.HB hb (Nat.le_of_lt h.KB.lt), h.KB.below hb, h.R.below hb, h.lt⟩
theorem TuAt.set {w wr : World} {K : Array Value} {kb rb : Nat} {cur : List UInt8} (h : TuAt w wr K kb rb cur) (k : Nat) (hk : k < cur.length) (c : UInt8) : TuAt w (wr.setCell ⟨rb, k, none⟩ (.int .u8 ((c.toNat : Nat) : Int))) K kb rb (cur.set k c) :=
  have h1 := h.lt
  ⟨h.HB.setCell (p := ⟨rb, k, none⟩) (by show kb ≤ rb; omega) _, h.KB.set_ne (by show kb ≠ rb; omega), h.R.set hk c, h.lt⟩
set_option maxHeartbeats 8000000 in
set_option maxRecDepth 20000 in
theorem cturn_any (key : List UInt8) (nonce : Nat) (s : ByteArray) (hk : key.length = 16) (hnon : nonce ≤ 18446744073709551615) (hn : s.size ≤ 100000) (w : World) :
    Calls Try.prog 19 #[.agg (kcells (keysN key 10)).toArray, .int .u64 (nonce : Int), .string s] w fun e w' => e = .returned (.string ⟨(turnS key nonce s.data.toList).toArray⟩) ∧ Below w.heap.size w w' := by
  have hKs := keysN_size key hk
  have hen := fun (l : List UInt8) (hl : l.length = 16) W => encrypt_any key l hk hl W
  obtain ⟨K, hK⟩ : ∃ K, (kcells (keysN key 10)).toArray = K := ⟨_, rfl⟩
  rw [hK] at hKs hen ⊢
  have HEN := Lib.hid hen
  obtain ⟨n, hsn⟩ : ∃ n, s.size = n := ⟨_, rfl⟩
  obtain ⟨L, hL⟩ : ∃ L, s.data.toList = L := ⟨_, rfl⟩
  have hLl : L.length = n := by rw [← hL]; exact hsn
  have hTl := turnS_len key nonce L hk
  obtain ⟨T, hT⟩ : ∃ T, turnS key nonce L = T := ⟨_, rfl⟩
  rw [hL, hT]
  rw [hT] at hTl
  have HT := Lib.hid hT
  rw [hsn] at hn
  clear hK hen hT
  go_enter Try.func19, Try.ntmps19
  go_upto_region 1 with fail
  refine wp_absQ (fun W => Below w.heap.size w W ∧ Blk W w.heap.size K 29) ⟨by (repeat (first | (with_reducible assumption) | (with_reducible exact Below.refl _ _) | with_reducible apply bl_drewN | with_reducible apply Below.drew | (with_reducible apply bl_alloc; focus (first | (simp; done) | (simp; omega) | omega)) | (with_reducible apply bl_set; focus (first | (simp; done) | (simp; omega) | omega)))), Blk.new _ _ _⟩ (fun W0 V0 => ?_)
  obtain ⟨HB0, K0⟩ := V0
  have hkl0 := K0.lt
  obtain ⟨v, W1, hcv, hrow, hb1⟩ := conv_crow s W0 9 36 5 Try.underlying9 Try.underlying36 Try.underlying5 (by omega)
  have HB1 := Below.thn HB0 hb1 HB0.size
  have K1 := K0.below hb1
  rw [hsn, hL] at hrow
  obtain ⟨rb, cap, rfl, hrb, R⟩ := hrow.bytes
  have V1 : TuAt w W1 K w.heap.size rb L := ⟨HB1, K1, R, by omega⟩
  obtain ⟨kb, hkb⟩ : ∃ b, w.heap.size = b := ⟨_, rfl⟩
  have HKB := Lib.hid hkb
  rw [hkb] at V1 ⊢
  have hcap : n ≤ cap := by
    obtain ⟨_, g, c2, cur, fr, h2, _, _, h5, _⟩ := hrow
    simp only [Value.slice.injEq] at h2
    omega
  clear hkb HB0 K0 HB1 K1 R hb1 hrow hkl0
  go_wp2_with fail
  go_loopg [8] ((n + 15) / 16) (fun gk t8 wr => ∃ (i m : Nat) (cur : List UInt8), i + gk = (n + 15) / 16 ∧ 16 * i = m ∧ t8 = .int .i64 (m : Int) ∧ TuAt w wr K kb rb cur ∧ Fill T L cur n (min m n))
  case atStart => exact ⟨0, 0, L, by omega, rfl, rfl, V1, by rw [Nat.zero_min]; exact .start hLl⟩
  case round =>
    clear V1 hcv
    obtain ⟨i, m, cur, hi, hm, rfl, V, F⟩ := hrel
    cases gk with
    | zero =>
      have hmn : min m n = n := by omega
      rw [hmn] at F
      have he := F.all (by omega)
      subst he
      have hge : ¬ (m : Int) < (n : Int) := by omega
      have hcv : (convert 36 9 (.slice (some ⟨rb, 0, none⟩) n cap)).run Try.prog wr = .ok (.string ⟨cur.toArray⟩) wr := by
        have h5 := Lib.run_convert_whole (P := Try.prog) wr 36 5 9 Try.underlying36 Try.underlying5 Try.underlying9 rb 0 ⟨cur.toArray⟩ (row_bytes V.R) cap
        rw [show (⟨cur.toArray⟩ : ByteArray).size = n by rw [ba_size]; simpa using hTl.trans hLl] at h5
        exact h5
      clear F hmn hi hm
      go_wp2_with fail
      go_ret
      exact ⟨rfl, by rw [HKB.out]; exact V.HB⟩
    | succ g =>
      have hmn : m < n := by omega
      have hmi : (m : Int) < (n : Int) := by omega
      have hq : (m : Int) / 16 = (i : Int) := by omega
      have hin : i ≤ 18446744073709551615 := by omega
      have hini : (i : Int) ≤ 18446744073709551615 := by omega
      obtain ⟨a, ha⟩ : ∃ a, m + 16 = a := ⟨_, rfl⟩
      obtain ⟨e, he⟩ : ∃ e, min a n = e := ⟨_, rfl⟩
      obtain ⟨c, hc⟩ : ∃ c, e - m = c := ⟨_, rfl⟩
      have h1 : (m : Int) + 16 = (a : Int) := by omega
      have h2 : min (a : Int) (n : Int) = (e : Int) := by omega
      have h3 : m ≤ e := by omega
      have h4 : e ≤ cap := by omega
      have h5 : m < cap := by omega
      have h6 : c ≤ 16 := by omega
      have h7 : m + c ≤ n := by omega
      have hst := strB_len key nonce i hk
      obtain ⟨X, hX⟩ : ∃ X, strB key nonce i = X := ⟨_, rfl⟩
      have hX' : encL key (ctrB nonce i) = X := hX
      have htn : ∀ k, k < c → T.getD (m + k) 0 = L.getD (m + k) 0 ^^^ X.getD k 0 := fun k hk2 => by
        rw [← HT.out, ← hX, ← hm]; exact turnS_at key nonce L i k hk (by omega) (by omega)
      rw [hX] at hst
      have hxs := bcells_len X hst
      have hen2 := fun W => HEN.out (ctrB nonce i) (ctrB_len nonce i) W
      rw [hX'] at hen2
      have HE2 := Lib.hid hen2; have HTN := Lib.hid htn; have HI := Lib.hid hi; have HM := Lib.hid hm
      have hmin : min m n = m := by omega
      rw [hmin] at F
      clear hX hX' hen2 htn hi hm hmin
      go_wp2_with fail
      refine wp_region_typed 8 (fun k => match k with  | _ => []) (fun k => match k with  | _ => false) (fun k => match k with | 0 => some ⟨(Unit), (()), (fun _ => .agg K), (fun _ _ => True), (fun _ _ _ h _ => h)⟩ | 5 => some ⟨(Unit), (()), (fun _ => .agg (bcells (ctrB nonce i))), (fun _ _ => True), (fun _ _ _ h _ => h)⟩ | 6 => some ⟨(Unit), (()), (fun _ => .agg (bcells X)), (fun _ _ => True), (fun _ _ _ h _ => h)⟩ | 7 => some ⟨(Nat), (0), (fun b => .pointer (some ⟨b, 0, none⟩)), (fun b w => wr.heap.size ≤ b ∧ Blk w b z16 25), (fun b w w' h hb => ⟨h.1, h.2.below hb⟩)⟩ | _ => none) (by kernel_rfl) (by kernel_rfl) (by intro d0 v0 c0 a0 w0 h0; first | (cases d0 <;> exact h0) | exact hP _ _ _ _ _ h0) ?_
      rw [show List.range 8 = [0, 1, 2, 3, 4, 5, 6, 7] from rfl]
      refine ty_rel rfl rfl _ rfl rfl (fun wq hq hk => ?_) ?_
      · exact rel_load_blk _ _ rfl kb rfl K _ (V.KB.gr hq) _ Try.underlying29 rfl (by rw [hKs]; kernel_rfl) (.mk (Below.refl _ _) () rfl trivial)
      rintro ⟨⟩
      (try simp only [Act.put, List.setIfInBounds_toArray, List.set_cons_zero, List.set_cons_succ])
      first
        | (refine ty_skip rfl rfl ?_; (try simp only [Act.put, List.setIfInBounds_toArray, List.set_cons_zero, List.set_cons_succ]))
        | (refine ty_pure rfl rfl rfl rfl ?_; apply Exists.intro; refine ⟨fun wq hq hk => ?_, ?_⟩
           · simp only [pureAt]; go_simp; (try simp only [↓IntWalk.iteOmega]); (try go_bits); (try simp only [pureUpon]); (first | done | exact ⟨rfl, rfl⟩ | exact ⟨trivial, rfl⟩ | rfl)
           (try simp only [Act.put, List.setIfInBounds_toArray, List.set_cons_zero, List.set_cons_succ]))
      first
        | (refine ty_skip rfl rfl ?_; (try simp only [Act.put, List.setIfInBounds_toArray, List.set_cons_zero, List.set_cons_succ]))
        | (refine ty_pure rfl rfl rfl rfl ?_; apply Exists.intro; refine ⟨fun wq hq hk => ?_, ?_⟩
           · simp only [pureAt]; go_simp; (try simp only [↓IntWalk.iteOmega]); (try go_bits); (try simp only [pureUpon]); (first | done | exact ⟨rfl, rfl⟩ | exact ⟨trivial, rfl⟩ | rfl)
           (try simp only [Act.put, List.setIfInBounds_toArray, List.set_cons_zero, List.set_cons_succ]))
      first
        | (refine ty_skip rfl rfl ?_; (try simp only [Act.put, List.setIfInBounds_toArray, List.set_cons_zero, List.set_cons_succ]))
        | (refine ty_pure rfl rfl rfl rfl ?_; apply Exists.intro; refine ⟨fun wq hq hk => ?_, ?_⟩
           · simp only [pureAt]; go_simp; (try simp only [↓IntWalk.iteOmega]); (try go_bits); (try simp only [pureUpon]); (first | done | exact ⟨rfl, rfl⟩ | exact ⟨trivial, rfl⟩ | rfl)
           (try simp only [Act.put, List.setIfInBounds_toArray, List.set_cons_zero, List.set_cons_succ]))
      first
        | (refine ty_skip rfl rfl ?_; (try simp only [Act.put, List.setIfInBounds_toArray, List.set_cons_zero, List.set_cons_succ]))
        | (refine ty_pure rfl rfl rfl rfl ?_; apply Exists.intro; refine ⟨fun wq hq hk => ?_, ?_⟩
           · simp only [pureAt]; go_simp; (try simp only [↓IntWalk.iteOmega]); (try go_bits); (try simp only [pureUpon]); (first | done | exact ⟨rfl, rfl⟩ | exact ⟨trivial, rfl⟩ | rfl)
           (try simp only [Act.put, List.setIfInBounds_toArray, List.set_cons_zero, List.set_cons_succ]))
      refine ty_rel rfl rfl _ rfl rfl (fun wq hq hk => ?_) ?_
      · simp only [relAt]; go_simp; (try simp only [relUpon]); (go_at_call 16; refine (block_any nonce i hnon hin _).mono ?_; rintro e w9 ⟨rfl, hb9⟩; exact ⟨_, rfl, .mk hb9 () rfl trivial⟩)
      rintro ⟨⟩
      (try simp only [Act.put, List.setIfInBounds_toArray, List.set_cons_zero, List.set_cons_succ])
      refine ty_rel rfl rfl _ rfl rfl (fun wq hq hk => ?_) ?_
      · simp only [relAt]; go_simp; (try simp only [relUpon]); (go_at_call 23; refine (HE2.out _).mono ?_; rintro e w9 ⟨rfl, hb9⟩; exact ⟨_, rfl, .mk hb9 () rfl trivial⟩)
      rintro ⟨⟩
      (try simp only [Act.put, List.setIfInBounds_toArray, List.set_cons_zero, List.set_cons_succ])
      refine ty_rel rfl rfl _ rfl rfl (fun wq hq hk => ?_) ?_
      · simp only [relAt]; go_simp; (try simp only [relUpon]); exact .mk ((Below.refl _ _).alloc (Nat.le_refl _) _) wq.heap.size rfl ⟨hq.size, Blk.new wq _ _⟩
      rintro (xb : Nat)
      (try simp only [Act.put, List.setIfInBounds_toArray, List.set_cons_zero, List.set_cons_succ])
      refine ty_nil ?_
      simp only [List.drop_succ_cons, List.drop_zero]
      intro W3 hw3 hΓ
      obtain ⟨hxb, X3⟩ := hΓ _ (.head _)
      have V3 := V.below hw3.out
      have hrbl := V.R.lt
      have hxrb : xb ≠ rb := by omega
      clear hΓ hw3
      go_upto_region 6 with (refine wpList_put rfl 25 _ _ rfl xb _ (bcells X) 25 rfl rfl X3 (by rw [hxs]; kernel_rfl) (hxs.trans rfl) (bcells_one X) (fun W4 hp4 X4 => ?_))
      (try simp only [Act.put])
      have hkx : kb < xb := by have := V3.lt; omega
      have V4 : TuAt w W4 K kb rb cur := ⟨hp4.below (Nat.le_of_lt hkx) V3.HB, hp4.blk (by omega) V3.KB, V3.R.keep (by rw [hp4.size]; exact Nat.le_refl _) (hp4.keep rb (by omega)), V3.lt⟩
      clear V V3 hp4 X3 hrbl
      go_wp2_with fail
      go_loopg [35] c (fun g2 t35 wx => ∃ (k : Nat) (cur : List UInt8), k + g2 = c ∧ t35 = .int .i64 (k : Int) ∧ TuAt w wx K kb rb cur ∧ Blk wx xb (bcells X) 25 ∧ Fill T L cur n (m + k))
      case atStart => exact ⟨0, cur, by omega, rfl, V4, X4, F⟩
      case round =>
        clear V4 X4 F
        obtain ⟨k, cur, hk2, rfl, V, XB, F⟩ := hrel
        cases gk with
        | zero =>
          obtain rfl : k = c := by omega
          have hnn : ¬ (k : Int) < (k : Int) := by omega
          clear hk2
          go_wp2_with fail
          go_roundg g
          case rel => exact ⟨i + 1, a, cur, by have := HI.out; omega, by have := HM.out; omega, by simp, V, by rw [show min a n = m + k by omega]; exact F⟩
          case measure => omega
        | succ g2 =>
          have hkc : (k : Int) < (c : Int) := by omega
          have hkcn : k < c := by omega
          obtain ⟨p, hp⟩ : ∃ p, m + k = p := ⟨_, rfl⟩
          have hpi : (m : Int) + (k : Int) = (p : Int) := by omega
          have hpn : (p : Int) < (n : Int) := by omega
          have hpnn : p < n := by omega
          have hk16 : (k : Int) < 16 := by omega
          rw [hp] at F
          have F2 := F.step hpnn
          have hx := HTN.out k hkcn
          rw [hp, ← F.todo p (Nat.le_refl _) hpnn] at hx
          obtain ⟨y, hy⟩ : ∃ y, T.getD p 0 = y := ⟨_, rfl⟩
          rw [hy] at F2 hx
          have c1 := V.R.cell p (by rw [F.len]; exact hpnn)
          have f1 := V.R.frz p (by rw [F.len]; exact hpnn)
          have c2 := XB.cell k
          rw [bcells_get X k (by omega)] at c2
          obtain ⟨u, hu⟩ : ∃ y, cur.getD p 0 = y := ⟨_, rfl⟩
          obtain ⟨x, hx2⟩ : ∃ y, X.getD k 0 = y := ⟨_, rfl⟩
          rw [hu] at c1 hx; rw [hx2] at c2 hx
          have c1' : wr.cell? ⟨rb, p, none⟩ = some (.int .u8 ((u.toNat : Nat) : Int)) := c1
          have e1 := sum_xor8 u x
          rw [← hx] at e1
          have hpl : p < cur.length := by rw [F.len]; exact hpnn
          have hK2 := Lib.hid hk2; have HF2 := Lib.hid F2; have HP := Lib.hid hp
          have hrl := V.R.lt
          clear hk2 F F2 hx hy hu hx2 hp c1
          go_wp2_with fail
          refine wp_region_gr_tail 11 (by kernel_rfl) (by kernel_rfl) ?_
          simp only [List.take_succ_cons, List.take_zero, List.drop_succ_cons, List.drop_zero]
          repeat (first
            | go_big_quiet_skip
            | ((refine BigFrame.wpQuiet_want rfl (fun K hK => quiet_mk ?_)); apply Exists.intro; refine ⟨fun wq hq => ?_, hK _ ?_⟩
               · have f0 := hq.cell c1'; have f1 := hq.cell c2; go_simp; (try simp only [↓IntWalk.iteOmega]); (try go_bits)
                 first | done | rfl | exact ⟨rfl, rfl⟩ | exact ⟨trivial, rfl⟩
               clear hK K; (try simp only [Act.put, List.setIfInBounds_toArray, List.set_cons_zero, List.set_cons_succ])))
          refine wpQuiet_nil ?_
          intro W10 hw10
          have V10 := V.below hw10.out
          have X10 := XB.gr hw10
          have c3 := hw10.cell c1'
          have f3 := V10.R.frz p hpl
          have V11 := V10.set p hpl y
          have X11 := X10.set_ne (a := ⟨rb, p, none⟩) (v := .int .u8 ((y.toNat : Nat) : Int)) (by show xb ≠ rb; omega)
          clear V XB c1' c2 f1 e1 hw10 V10 X10 hrl
          go_wp2_with fail
          go_roundg g2
          case rel => exact ⟨k + 1, _, by have := hK2.out; omega, by simp, V11, X11, by rw [← Nat.add_assoc, HP.out]; exact HF2.out⟩
          case measure => omega
end Go.Proofs.Ytkblkdojmfgneaa
