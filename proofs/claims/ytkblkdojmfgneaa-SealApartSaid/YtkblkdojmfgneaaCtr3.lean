/- Package ctr: Stream. -/
import Derived.Test.YtkblkdojmfgneaaCtr2
namespace Go.Proofs.Ytkblkdojmfgneaa
open Go.RowKit

theorem rel_load_blk {P : Program} {o : Oper} {a : Act} {w : World} {post : Value → World → Prop} (ty : TypeId) (x : Operand) (ho : o.op = .load ty x)
    (b : Nat) (hx : a.eval x = .pointer (some ⟨b, 0, none⟩)) (K : Array Value) (t : TypeId) (B : Blk w b K t) (d : TypeDesc)
    (hu : P.underlying ty = some d) (hd : d.isRow = true) (hi : (P.info? ty).map (·.size) = some K.size) (h : post (.agg K) w) : relAt P o a w post := by
  refine rel_load_mid ty x ho b 0 hx K.toList d ?_ hu hd (by simpa using hi) (by simpa using h)
  intro j v hv
  rw [Nat.zero_add, B.cell]
  simpa using hv
theorem strA_take_succ (key : List UInt8) (nonce i n : Nat) (hk : key.length = 16) (h : 16 * i < n) : (strA key nonce i).take n ++ (strB key nonce i).take (min 16 (n - 16 * i)) = (strA key nonce (i + 1)).take n := by
  have hl := strA_len key nonce hk i
  have hb := strB_len key nonce i hk
  rw [strA, List.take_append, hl, List.take_of_length_le (by omega : (strA key nonce i).length ≤ n)]
  congr 1
  rcases Nat.le_total 16 (n - 16 * i) with h1 | h1
  · rw [Nat.min_eq_left h1, List.take_of_length_le (by omega), List.take_of_length_le (by omega)]
  · rw [Nat.min_eq_right h1]
/-- Memory of a stream that is being made. -/
structure StAt (w wr : World) (K : Array Value) (kb bb : Nat) (out : List UInt8) : Prop where
  HB : Below kb w wr
  KB : Blk wr kb K 29
  SB : Lib.IsBuilderF 95 5 bb bb (Lib.byteCells out) wr
  lt : kb < bb
theorem StAt.below {w wr w' : World} {K : Array Value} {kb bb : Nat} {out : List UInt8} (h : StAt w wr K kb bb out) (hb : Below wr.heap.size wr w') : StAt w w' K kb bb out :=
  ⟨Below.thn h.HB hb (Nat.le_of_lt h.KB.lt), h.KB.below hb, isb_below h.SB hb, h.lt⟩
theorem StAt.wrote {w wr w' : World} {K : Array Value} {kb bb : Nat} {out out' : List UInt8} (h : StAt w wr K kb bb out) (S : Lib.IsBuilderF 95 5 bb bb (Lib.byteCells out') w') (hb : Below bb wr w') : StAt w w' K kb bb out' :=
  ⟨Below.via h.HB hb (Nat.le_of_lt h.lt), ⟨(hb.block kb h.lt).trans h.KB.out⟩, S, h.lt⟩
/-- A builder stands as another block, which isn't its row, is written. -/
theorem isb_put {T b g : Nat} {bs : List Value} {w w' : World} {cs : Array Value} {t : TypeId} (h : Lib.IsBuilderF T 5 b b bs w) (hp : Put g w w') (hg : g ≠ b) (G : Blk w g cs t) (ht : t ≠ 5 := by decide) : Lib.IsBuilderF T 5 b b bs w' := by
  have key : ∀ p, Lib.BuilderAtF T 5 b b p bs w → Lib.BuilderAtF T 5 b b p bs w' := by
    rintro p ⟨h1, v, h2, h3, h4⟩
    refine ⟨h1, v, (hp.keep b (fun e => hg e.symm)).trans h2, ⟨h3.1, ?_⟩, h4⟩
    rcases h3.2 with h5 | ⟨q, c, cur, fz, h5, h6, h7, h8⟩
    · exact Or.inl h5
    · refine Or.inr ⟨q, c, cur, fz, h5, h6, (hp.keep q ?_).trans h7, h8⟩
      rintro rfl
      have e := G.out.symm.trans h7
      simp only [Option.some.injEq, Obj.cells.injEq] at e
      exact ht e.2.1
  exact h.imp (key _) (key _)
set_option maxHeartbeats 8000000 in
set_option maxRecDepth 20000 in
theorem stream_any (key : List UInt8) (nonce n : Nat) (hk : key.length = 16) (hnon : nonce ≤ 18446744073709551615) (hn : n ≤ 65536) (w : World) :
    Calls Try.prog 17 #[.agg (kcells (keysN key 10)).toArray, .int .u64 (nonce : Int), .int .i64 (n : Int)] w fun e w' => e = .returned (.tuple #[.string ⟨(streamL key nonce n).toArray⟩, .int .i64 0]) ∧ Below w.heap.size w w' := by
  have hKs := keysN_size key hk
  have hen := fun (l : List UInt8) (hl : l.length = 16) W => encrypt_any key l hk hl W
  obtain ⟨K, hK⟩ : ∃ K, (kcells (keysN key 10)).toArray = K := ⟨_, rfl⟩
  rw [hK] at hKs hen ⊢
  have HEN := Lib.hid hen
  have n1 : ¬ (n : Int) < 0 := by omega
  have n2 : ¬ (65536 : Int) < (n : Int) := by omega
  obtain ⟨T, hT⟩ : ∃ T, streamL key nonce n = T := ⟨_, rfl⟩
  rw [hT]
  have HT := Lib.hid hT
  clear hK hen hT
  go_enter Try.func17, Try.ntmps17
  go_upto_region 4 with fail
  refine wp_absQ (fun W => StAt w W K w.heap.size (w.heap.size + 1) []) ⟨by (repeat (first | (with_reducible assumption) | (with_reducible exact Below.refl _ _) | with_reducible apply bl_drewN | with_reducible apply Below.drew | (with_reducible apply bl_alloc; focus (first | (simp; done) | (simp; omega) | omega)) | (with_reducible apply bl_set; focus (first | (simp; done) | (simp; omega) | omega)))), Blk.alloc (Blk.new _ _ _), by
    have := Lib.IsBuilderF.of (Lib.fresh_isBuilder 95 5 (w.alloc (Obj.cells K 29)))
    rw [show (w.alloc (Obj.cells K 29)).heap.size = w.heap.size + 1 by simp] at this
    exact this, by omega⟩ (fun W1 V1 => ?_)
  obtain ⟨kb, hkb⟩ : ∃ b, w.heap.size = b := ⟨_, rfl⟩
  have HKB := Lib.hid hkb
  rw [hkb] at V1 ⊢
  clear hkb
  obtain ⟨bb, hbb⟩ : ∃ b, kb + 1 = b := ⟨_, rfl⟩
  rw [hbb] at V1 ⊢
  clear hbb
  go_wp2_with fail
  go_loopg [9] ((n + 15) / 16) (fun gk t9 wr => ∃ i : Nat, i + gk = (n + 15) / 16 ∧ t9 = .int .u64 (i : Int) ∧ StAt w wr K kb bb ((strA key nonce i).take n))
  case atStart => exact ⟨0, by omega, rfl, by rw [strA, List.take_nil]; exact V1⟩
  case round =>
    clear V1
    obtain ⟨i, hi, rfl, V⟩ := hrel
    have hlt := V.lt
    have hsl : ((strA key nonce i).take n).length = min n (16 * i) := by rw [List.length_take, strA_len key nonce hk]
    go_wp2_with fail
    refine (blen bb _ _ V.SB).mono ?_
    rintro e W2 ⟨rfl, rfl⟩
    rw [hsl]
    cases gk with
    | zero =>
      have hmn : min n (16 * i) = n := by omega
      rw [hmn]
      have he : (strA key nonce i).take n = T := by rw [← HT.out, show i = (n + 15) / 16 by omega]; rfl
      rw [he] at V
      clear hsl hi hmn he
      go_wp2_with fail
      refine (bstr bb _ _ V.SB).mono ?_
      rintro e W9 ⟨rfl, hb9⟩
      have HB9 := Below.via V.HB hb9 (by omega)
      go_wp2_with fail
      go_ret2
      exact ⟨rfl, by rw [HKB.out]; exact HB9⟩
    | succ g =>
      have h16 : 16 * i < n := by omega
      obtain ⟨m, hm⟩ : ∃ m, 16 * i = m := ⟨_, rfl⟩
      have hmn : min n (16 * i) = m := by omega
      rw [hmn] at hsl ⊢
      have hmi : (m : Int) < (n : Int) := by omega
      have hstep := strA_take_succ key nonce i n hk h16
      rw [hm] at hstep
      obtain ⟨d, hd⟩ : ∃ d, n - m = d := ⟨_, rfl⟩
      have hdi : (n : Int) - (m : Int) = (d : Int) := by omega
      rw [hd] at hstep
      obtain ⟨k, hkk⟩ : ∃ k, min 16 d = k := ⟨_, rfl⟩
      have hki : min (16 : Int) (d : Int) = (k : Int) := by omega
      rw [hkk] at hstep
      have hk16 : k ≤ 16 := by omega
      have hk16i : (k : Int) ≤ 16 := by omega
      have hi1 : (i : Int) + 1 ≤ 18446744073709551615 := by omega
      have hin : i ≤ 18446744073709551615 := by omega
      have hst := strB_len key nonce i hk
      obtain ⟨X, hX⟩ : ∃ X, strB key nonce i = X := ⟨_, rfl⟩
      have hX' : encL key (ctrB nonce i) = X := hX
      rw [hX] at hst hstep
      have hxs := bcells_len X hst
      have HI := Lib.hid hi; have HS := Lib.hid hstep; have HSL := Lib.hid hsl
      have hmo : m ≤ 65536 := by omega
      have hen2 := fun W => HEN.out (ctrB nonce i) (ctrB_len nonce i) W
      rw [hX'] at hen2
      have HE2 := Lib.hid hen2
      clear hi hstep hsl hX hX' hm hmn hd hkk h16 hen2
      go_wp2_with fail
      refine wp_region_typed 6 (fun k => match k with  | _ => []) (fun k => match k with  | _ => false) (fun k => match k with | 0 => some ⟨(Unit), (()), (fun _ => .agg K), (fun _ _ => True), (fun _ _ _ h _ => h)⟩ | 3 => some ⟨(Unit), (()), (fun _ => .agg (bcells (ctrB nonce i))), (fun _ _ => True), (fun _ _ _ h _ => h)⟩ | 4 => some ⟨(Unit), (()), (fun _ => .agg (bcells X)), (fun _ _ => True), (fun _ _ _ h _ => h)⟩ | 5 => some ⟨(Nat), (0), (fun b => .pointer (some ⟨b, 0, none⟩)), (fun b w => W2.heap.size ≤ b ∧ Blk w b z16 25), (fun b w w' h hb => ⟨h.1, h.2.below hb⟩)⟩ | _ => none) (by kernel_rfl) (by kernel_rfl) (by intro d0 v0 c0 a0 w0 h0; first | (cases d0 <;> exact h0) | exact hP _ _ _ _ _ h0) ?_
      rw [show List.range 6 = [0, 1, 2, 3, 4, 5] from rfl]
      refine ty_rel rfl rfl _ rfl rfl (fun wq hq hk => ?_) ?_
      · exact rel_load_blk _ _ rfl kb rfl K _ (V.KB.gr hq) _ Try.underlying29 rfl (by rw [hKs]; kernel_rfl) (.mk (Below.refl _ _) () rfl trivial)
      rintro ⟨⟩
      (try simp only [Act.put, List.setIfInBounds_toArray, List.set_cons_zero, List.set_cons_succ])
      first
        | (refine ty_skip rfl rfl ?_; (try simp only [Act.put, List.setIfInBounds_toArray, List.set_cons_zero, List.set_cons_succ]))
        | (refine ty_pure rfl rfl rfl rfl ?_; apply Exists.intro; refine ⟨fun wq hq hk => ?_, ?_⟩
           · simp only [pureAt]; go_simp; (try simp only [↓IntWalk.iteOmega]); (try go_bits); (try simp only [pureUpon]); (first | done | exact ⟨rfl, rfl⟩ | exact ⟨trivial, rfl⟩ | rfl)
           (try simp only [Act.put, List.setIfInBounds_toArray, List.set_cons_zero, List.set_cons_succ]))
      first
        | (refine ty_skip rfl rfl ?_; (try simp only [Act.put, List.setIfInBounds_toArray, List.set_cons_zero, List.set_cons_succ]))
        | (refine ty_pure rfl rfl rfl rfl ?_; apply Exists.intro; refine ⟨fun wq hq hk => ?_, ?_⟩
           · simp only [pureAt]; go_simp; (try simp only [↓IntWalk.iteOmega]); (try go_bits); (try simp only [pureUpon]); (first | done | exact ⟨rfl, rfl⟩ | exact ⟨trivial, rfl⟩ | rfl)
           (try simp only [Act.put, List.setIfInBounds_toArray, List.set_cons_zero, List.set_cons_succ]))
      refine ty_rel rfl rfl _ rfl rfl (fun wq hq hk => ?_) ?_
      · simp only [relAt]; go_simp; (try simp only [relUpon]); (go_at_call 16; refine (block_any nonce i hnon hin _).mono ?_; rintro e w9 ⟨rfl, hb9⟩; exact ⟨_, rfl, .mk hb9 () rfl trivial⟩)
      rintro ⟨⟩
      (try simp only [Act.put, List.setIfInBounds_toArray, List.set_cons_zero, List.set_cons_succ])
      refine ty_rel rfl rfl _ rfl rfl (fun wq hq hk => ?_) ?_
      · simp only [relAt]; go_simp; (try simp only [relUpon]); (go_at_call 23; refine (HE2.out _).mono ?_; rintro e w9 ⟨rfl, hb9⟩; exact ⟨_, rfl, .mk hb9 () rfl trivial⟩)
      rintro ⟨⟩
      (try simp only [Act.put, List.setIfInBounds_toArray, List.set_cons_zero, List.set_cons_succ])
      refine ty_rel rfl rfl _ rfl rfl (fun wq hq hk => ?_) ?_
      · simp only [relAt]; go_simp; (try simp only [relUpon]); exact .mk ((Below.refl _ _).alloc (Nat.le_refl _) _) wq.heap.size rfl ⟨hq.size, Blk.new wq _ _⟩
      rintro (xb : Nat)
      (try simp only [Act.put, List.setIfInBounds_toArray, List.set_cons_zero, List.set_cons_succ])
      refine ty_nil ?_
      simp only [List.drop_succ_cons, List.drop_zero]
      intro W3 hw3 hΓ
      obtain ⟨hxb, X3⟩ := hΓ _ (.head _)
      have V3 := V.below hw3.out
      have hbbl := isb_lt V.SB
      clear hΓ hw3
      have hxbb : xb ≠ bb := by omega
      go_upto_region 8 with (refine wpList_put rfl 25 _ _ rfl xb _ (bcells X) 25 rfl rfl X3 (by rw [hxs]; kernel_rfl) (hxs.trans rfl) (bcells_one X) (fun W4 hp4 X4 => ?_))
      (try simp only [Act.put])
      have hkx : kb < xb := by have := V3.lt; omega
      have V4 : StAt w W4 K kb bb ((strA key nonce i).take n) := ⟨hp4.below (Nat.le_of_lt hkx) V3.HB, hp4.blk (by omega) V3.KB, isb_put V3.SB hp4 (by omega) X3, V3.lt⟩
      clear V V3 hp4 X3 hbbl
      go_wp2_with fail
      refine (blen bb _ _ V4.SB).mono ?_
      rintro e W5 ⟨rfl, rfl⟩
      rw [HSL.out]
      go_wp2_with fail
      have hlk : (X.take k).length = k := by rw [List.length_take, hst]; omega
      have hwr := wbytes bb xb 16 ((strA key nonce i).take n) (X.take k) (bcells X) 25 (by decide) hxbb W5 V4.SB X4 (fun j hj => by
        rw [hlk] at hj
        rw [bcells_get X j (by omega), List.getD_eq_getElem?_getD, List.getD_eq_getElem?_getD, List.getElem?_take_of_lt hj]; rfl) (by rw [hlk, HSL.out]; omega)
      rw [hlk, HS.out] at hwr
      refine hwr.mono ?_
      rintro e W6 ⟨v6, rfl, S6, hb6, hk6⟩
      have V6 := V4.wrote S6 hb6
      clear V4 X4 S6 hb6 hk6 hwr hlk
      go_wp2_with fail
      go_roundg g
      case rel => exact ⟨i + 1, by have := HI.out; omega, by simp, V6⟩
      case measure => omega
set_option maxHeartbeats 4000000 in
set_option maxRecDepth 20000 in
theorem stream_bad (K : Array Value) (nonce n : Int) (hn : n < 0 ∨ 65536 < n) (w : World) :
    Calls Try.prog 17 #[.agg K, .int .u64 nonce, .int .i64 n] w fun e w' => e = .returned (.tuple #[.string ⟨#[]⟩, .int .i64 7]) ∧ Below w.heap.size w w' := by
  rcases hn with n1 | n2
  · go_enter Try.func17, Try.ntmps17
    go_wp2_with fail
    go_ret2
    exact ⟨rfl, by (repeat (first | (with_reducible assumption) | (with_reducible exact Below.refl _ _) | with_reducible apply bl_drewN | with_reducible apply Below.drew | (with_reducible apply bl_alloc; focus (first | (simp; done) | (simp; omega) | omega)) | (with_reducible apply bl_set; focus (first | (simp; done) | (simp; omega) | omega))))⟩
  · have n1 : ¬ n < 0 := by omega
    go_enter Try.func17, Try.ntmps17
    go_wp2_with fail
    go_ret2
    exact ⟨rfl, by (repeat (first | (with_reducible assumption) | (with_reducible exact Below.refl _ _) | with_reducible apply bl_drewN | with_reducible apply Below.drew | (with_reducible apply bl_alloc; focus (first | (simp; done) | (simp; omega) | omega)) | (with_reducible apply bl_set; focus (first | (simp; done) | (simp; omega) | omega))))⟩
end Go.Proofs.Ytkblkdojmfgneaa
