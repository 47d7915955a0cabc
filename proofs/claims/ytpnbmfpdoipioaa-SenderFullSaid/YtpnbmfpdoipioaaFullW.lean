/- SenderFull: the walk. -/
import Derived.Test.YtpnbmfpdoipioaaFullL
import Derived.Test.YtpnbmfpdoipioaaSenderEndsW
import Derived.Test.YtpnbmfpdoipioaaTyp2
import Derived.Test.YtpnbmfpdoipioaaPut
import Derived.Test.YtpnbmfpdoipioaaShelf
namespace Go.Proofs.Ytpnbmfpdoipioaa
open Go.RowKit

theorem rep_any (n : Nat) (w : World) (hn : n ≤ 1000) : Calls Try.prog 27 #[.string ⟨#[120]⟩, .int .i64 n] w fun e w' => e = .returned (.string (X n)) ∧ Below w.heap.size w w' := by
  have := Try.strings_Repeat ⟨#[120]⟩ n w (by omega) (by show 1 * n ≤ _; omega)
  exact this
theorem rep_succ (i i1 : Nat) (w : World) (hn : i1 ≤ 1000) (h : Hid (i1 = i + 1)) : Calls Try.prog 27 #[.string ⟨#[120]⟩, .int .i64 ((i : Int) + 1)] w fun e w' => e = .returned (.string (X i1)) ∧ Below w.heap.size w w' := by
  have := rep_any i1 w hn
  rwa [show ((i1 : Nat) : Int) = (i : Int) + 1 by have := h.out; omega] at this
abbrev SVx (x : Option Addr × Nat × Nat) (cur : ByteArray) (last : Nat) : Value := SV (.slice x.1 x.2.1 x.2.2) cur last
abbrev IVx (y : Nat × Nat × Nat × Nat × ByteArray) : Value := IV y.1 y.2.1 y.2.2.1 y.2.2.2.1 y.2.2.2.2
theorem full_next (i wait beat : Nat) (v : Value) (w : World) (ok : Bool) (hok : decide (i < 7) = ok) (hi : i < 30) (hw : 100 ≤ wait) (hb : 100 ≤ beat) (hw2 : wait ≤ 18446744073709551615) (hb2 : beat ≤ 18446744073709551615)
    (S : SenderAt w v (fl (min i 7)) (X (i + 1)) (min i 7 - 1)) :
    Calls Try.prog 12 #[v, .int .u64 i, .int .u64 wait, .int .u64 beat, .int .u64 0] w fun e w' =>
      ∃ x y, e = .returned (.tuple #[SVx x (X (i + 1)) (min (i + 1) 7 - 1), IVx y, .bool ok]) ∧ SenderAt w' (SVx x (X (i + 1)) (min (i + 1) 7 - 1)) (fl (min (i + 1) 7)) (X (i + 1)) (min (i + 1) 7 - 1) ∧ Below w.heap.size w w' := by
  subst hok
  by_cases h : i < 7
  · rw [show min i 7 = i by omega] at S
    rw [show min (i + 1) 7 = i + 1 by omega, show i + 1 - 1 = i by omega]
    refine (next_ok v _ _ _ i wait beat 0 w S hw2 hb2 (by omega) (by rw [fl_top]; show i < 1000000; omega) (due_new _ _ _ _ _ _ (fl_fresh i h))).mono ?_
    rintro e w' ⟨v', rfl, S', hb'⟩
    rw [fl_next i h] at S' ⊢
    obtain ⟨a, m, c, rfl⟩ := S'.form
    exact ⟨(a, m, c), (_, _, _, _, _), by rw [decide_eq_true h], S', hb'⟩
  · rw [show min i 7 = 7 by omega] at S
    rw [show min (i + 1) 7 = 7 by omega]
    refine (next_not v _ _ _ i wait beat 0 w S hw2 hb2 (full_wait _ i wait beat (by omega) hw hb)).mono ?_
    rintro e w' ⟨rfl, hb'⟩
    obtain ⟨a, m, c, rfl⟩ := S.form
    exact ⟨(a, m, c), (0, 0, 0, 0, ⟨#[]⟩), by rw [decide_eq_false h]; rfl, S.below hb', hb'⟩

theorem next_last (i wait beat : Nat) (v : Value) (w : World) (h8 : 8 ≤ i) (hi : i < 30) (hw2 : wait ≤ 18446744073709551615) (hb2 : beat ≤ 18446744073709551615) (last : Nat) (S : SenderAt w v [⟨7, 6, X 7⟩] (X i) last) :
    Calls Try.prog 12 #[v, .int .u64 i, .int .u64 wait, .int .u64 beat, .int .u64 3] w fun e w' =>
      ∃ a m c, e = .returned (.tuple #[SV (.slice a m c) (X i) i, IV 7 8 3 7 (X 7 ++ ⟨#[62]⟩ ++ X i), .bool true]) ∧ SenderAt w' (SV (.slice a m c) (X i) i) [⟨7, 6, X 7⟩, ⟨8, i, X i⟩] (X i) i ∧ Below w.heap.size w w' := by
  refine (next_ok v _ _ _ i wait beat 3 w S hw2 hb2 (by omega) (by decide) (due_new _ _ _ _ _ _ (last_fresh i h8))).mono ?_
  rintro e w' ⟨v', rfl, S', hb'⟩
  rw [last_next i h8] at S' ⊢
  obtain ⟨a, m, c, rfl⟩ := S'.form
  exact ⟨a, m, c, rfl, S', hb'⟩
theorem Blk.ne_ty {w : World} {b b' : Nat} {cs cs' : Array Value} {t t' : TypeId} (h : Blk w b cs t) (h' : Blk w b' cs' t') (ht : t ≠ t') : b ≠ b' := fun e => by
  subst e
  have := h.out.symm.trans h'.out
  simp only [Option.some.injEq, Obj.cells.injEq] at this
  exact ht this.2.1
theorem list_ne_small {w : World} {b off b' : Nat} {l : List SSt} {cs : Array Value} {t : TypeId} (L : ListAt w b off l) (hl : 2 ≤ l.length) (B : Blk w b' cs t) (hs : cs.size ≤ 5) : b ≠ b' := fun e => by
  subst e
  have h := L.c2 1 (by omega)
  rw [B.cell, Array.getElem?_eq_none (by omega)] at h
  cases h
theorem SenderAt.put {w w' : World} {v : Value} {l : List SSt} {now : ByteArray} {last b' : Nat} {cs : Array Value} {t : TypeId} (S : SenderAt w v l now last) (hl : 2 ≤ l.length) (B : Blk w b' cs t) (hs : cs.size ≤ 5) (h : Put b' w w') : SenderAt w' v l now last := by
  obtain ⟨b, off, cap, h1, h2, h3, L, h4⟩ := S
  have hne := list_ne_small L hl B hs
  have hc : ∀ o, w'.cell? ⟨b, o, none⟩ = w.cell? ⟨b, o, none⟩ := fun o => World.cell?_of_block (h.keep b hne)
  exact ⟨b, off, cap, h1, h2, h3, ⟨by rw [h.size]; exact L.lt, fun j hj => (hc _).trans (L.c0 j hj), fun j hj => (hc _).trans (L.c1 j hj), fun j hj => (hc _).trans (L.c2 j hj), L.small, L.pos⟩, h4⟩

set_option maxHeartbeats 1000000 in
set_option maxRecDepth 20000 in
theorem full_out (n wait beat : Nat) (w : World) (h : wait < 100 ∨ beat < 100) :
    Calls Try.prog 7 #[.int .u8 n, .int .u64 wait, .int .u64 beat] w fun e w' => e = .returned (.bool true) ∧ Below w.heap.size w w' := by
  by_cases h1 : wait < 100
  · have g1 : (wait : Int) < 100 := by omega
    go_enter Try.func7, Try.ntmps7
    go_wp2_with fail
    refine (awake15 _).mono ?_
    rintro e w0 ⟨rfl, HB0⟩
    go_wp2
    go_ret
    exact ⟨rfl, HB0⟩
  · have g1 : ¬ (wait : Int) < 100 := by omega
    have g2 : (beat : Int) < 100 := by omega
    go_enter Try.func7, Try.ntmps7
    go_wp2_with fail
    refine (awake15 _).mono ?_
    rintro e w0 ⟨rfl, HB0⟩
    go_wp2
    go_ret
    exact ⟨rfl, HB0⟩

set_option maxHeartbeats 16000000 in
set_option maxRecDepth 20000 in
theorem full_walk (n wait beat : Nat) (w : World) (hn : n ≤ 255) (hwt : 100 ≤ wait) (hbt : 100 ≤ beat) (hw2 : wait ≤ 18446744073709551615) (hb2 : beat ≤ 18446744073709551615) :
    Calls Try.prog 7 #[.int .u8 n, .int .u64 wait, .int .u64 beat] w fun e w' => e = .returned (.bool true) ∧ Below w.heap.size w w' := by
  have g1 : ¬ (wait : Int) < 100 := by omega
  have g2 : ¬ (beat : Int) < 100 := by omega
  obtain ⟨K, hK⟩ : ∃ K, K = n % 30 := ⟨_, rfl⟩
  have hKt : (n : Int).tmod 30 = (K : Int) := by rw [hK]; rfl
  have hKl : K < 30 := by omega
  clear hK
  go_enter Try.func7, Try.ntmps7
  go_wp2_with fail
  refine (awake15 _).mono ?_
  rintro e w0 ⟨rfl, HB0⟩
  have HBs0 := HB0.size
  go_wp2_with fail
  refine (rule_any _).mono ?_
  rintro e w1 ⟨rfl, hb⟩
  have HB1 := Below.thn HB0 hb HBs0
  have HBs1 := HB1.size
  go_wp2_with fail
  refine (new_any _ _ (by decide)).mono ?_
  rintro e w2 ⟨v, rfl, S2, hb⟩
  have HB2 := Below.thn HB1 hb HBs1
  have HBs2 := HB2.size
  obtain ⟨sa, sn, sc, hsl⟩ := S2.form
  subst hsl
  clear HB1 HB0 hb
  go_wp2_with fail
  have V3 : VarAt w (w2.alloc (.cells #[fDiff, fSame, .slice sa sn sc, .string ⟨#[]⟩, .int .u64 0] 31)) w2.heap.size (fl 0) (X 0) 0 :=
    ⟨sa, sn, sc, Blk.new w2 _ _, S2.below ((Below.refl _ _).alloc (Nat.le_refl _) _), HB2.alloc HBs2 _⟩
  obtain ⟨b5, hb5⟩ : ∃ b5, w2.heap.size = b5 := ⟨_, rfl⟩
  rw [hb5] at V3
  have hb5w : w.heap.size ≤ b5 := by omega
  generalize w2.alloc (.cells #[fDiff, fSame, .slice sa sn sc, .string ⟨#[]⟩, .int .u64 0] 31) = W3 at *
  rw [hb5]
  clear hb5 S2 HB2 HBs2
  go_loopg [31] K (fun g t31 wr => ∃ (i : Nat), t31 = .int .i64 i ∧ i + g = K ∧ VarAt w wr b5 (fl (min i 7)) (X i) (min i 7 - 1))
  case atStart => exact ⟨0, rfl, by omega, V3⟩
  case round =>
    clear V3
    obtain ⟨i, rfl, hi, V⟩ := hrel
    have HI := Lib.hid hi
    cases gk with
    | zero =>
      have hi' : ¬ (i : Int) < K := by omega
      obtain rfl : i = K := by omega
      obtain ⟨q, hq⟩ : ∃ q, q = min i 7 := ⟨_, rfl⟩
      have hmin : min (i : Int) 7 = (q : Int) := by omega
      rw [← hq] at V
      obtain ⟨a, m, c, B, S, HB⟩ := V
      have HBs := HB.size
      have Bc := B.cell; have Bl := B.lt
      have HQ := Lib.hid hq
      clear hi hq
      go_wp2_with fail
      refine (acked_any _ _ q _ _ _ S).mono ?_
      rintro e W2 ⟨v2, rfl, S2, hb⟩
      rw [fl_ack] at S2
      obtain ⟨a2, m2, c2, h2⟩ := S2.form
      subst h2
      have B2 := B.below hb
      have S0 := S.below hb
      have HB2 := Below.thn HB hb HBs
      have HBs2 := HB2.size
      clear B S HB hb Bc Bl HBs
      have Bc := B2.cell; have Bl := B2.lt
      by_cases h7 : i ≤ 7
      · have hqi : q = i := by have := HQ.out; omega
        subst hqi
        have g7 : (q : Int) ≤ 7 := by omega
        go_wp2_with fail
        refine (next_not _ _ _ _ q wait beat 3 _ S2 hw2 hb2 (last_wait q wait beat h7 hbt)).mono ?_
        rintro e W3 ⟨rfl, hb⟩
        have B3 := B2.below hb
        have S3 := S0.below hb
        have HB3 := Below.thn HB2 hb HBs2
        have HBs3 := HB3.size
        clear B2 S0 S2 HB2 hb Bc Bl HBs2
        have Bc := B3.cell; have Bl := B3.lt
        go_wp2_with fail
        refine (acked_any _ _ q _ _ _ (S3.below (by (repeat (first | (with_reducible assumption) | (with_reducible exact Below.refl _ _) | with_reducible apply bl_drewN | with_reducible apply Below.drew | (with_reducible apply bl_alloc; focus (first | (simp; done) | (simp; omega) | omega)) | (with_reducible apply bl_set; focus (first | (simp; done) | (simp; omega) | omega))))))).mono ?_
        rintro e W4 ⟨v4, rfl, S4, hb⟩
        rw [fl_ack] at S4
        have HB4 := Below.thn (n := w.heap.size) (w := w) (by (repeat (first | (with_reducible assumption) | (with_reducible exact Below.refl _ _) | with_reducible apply bl_drewN | with_reducible apply Below.drew | (with_reducible apply bl_alloc; focus (first | (simp; done) | (simp; omega) | omega)) | (with_reducible apply bl_set; focus (first | (simp; done) | (simp; omega) | omega))))) hb
        have HBs4 := HB4.size
        go_wp2_with fail
        refine (sq_any _ _ _ _ _ S4).mono ?_
        rintro e W5 ⟨rfl, hb5⟩
        rw [one_quiet]
        go_wp2
        go_ret
        exact ⟨rfl, Below.thn HB4 hb5 HBs4⟩
      · have h8 : 8 ≤ i := by omega
        obtain rfl : q = 7 := by have := HQ.out; omega
        have g7 : ¬ (i : Int) ≤ 7 := by omega
        go_wp2_with fail
        refine (next_last i wait beat _ _ h8 (by omega) hw2 hb2 _ S2).mono ?_
        rintro e W3 ⟨a3, m3, c3, rfl, S3, hb⟩
        have HB3 := Below.thn HB2 hb HBs2
        have HBs3 := HB3.size
        clear B2 S0 S2 HB2 hb Bc Bl HBs2
        have hX7 := X_size 7
        have hXi := X_size i
        have r1 : ∀ W, (Op.stringOp .add (X 7) ⟨#[62]⟩).run Try.prog W = .ok (.string (X 7 ++ ⟨#[62]⟩)) W := fun W => run_string_add_sum W _ _ (by show _ + 1 ≤ _; omega)
        have r2 : ∀ W, (Op.stringOp .add (X 7 ++ ⟨#[62]⟩) (X i)).run Try.prog W = .ok (.string (X 7 ++ ⟨#[62]⟩ ++ X i)) W := fun W => run_string_add_sum W _ _ (by rw [sz_app, hX7]; show 7 + 1 + _ ≤ _; omega)
        have q38 := run_eql_instr 7 8 3 7 (X 7 ++ ⟨#[62]⟩ ++ X i)
        have hi1000 : i ≤ 1000 := by omega
        clear hX7 hXi
        go_wp2_with fail
        refine wp_abs2 (n := W3.heap.size) (w := W3) W3.heap.size 31 (W3.heap.size + 1) 38 (by (repeat (first | (with_reducible assumption) | (with_reducible exact Below.refl _ _) | with_reducible apply bl_drewN | with_reducible apply Below.drew | (with_reducible apply bl_alloc; focus (first | (simp; done) | (simp; omega) | omega)) | (with_reducible apply bl_set; focus (first | (simp; done) | (simp; omega) | omega))))) (by (repeat (first | (with_reducible assumption) | (with_reducible apply Blk.new'; (first | (with_reducible rfl) | (simp; done))) | with_reducible apply Blk.alloc | with_reducible apply Blk.set | ((with_reducible apply Blk.set_ne); focus (first | (simp; done) | (simp; omega))) | with_reducible apply Blk.drewN | with_reducible apply Blk.drew))) (by (repeat (first | (with_reducible assumption) | (with_reducible apply Blk.new'; (first | (with_reducible rfl) | (simp; done))) | with_reducible apply Blk.alloc | with_reducible apply Blk.set | ((with_reducible apply Blk.set_ne); focus (first | (simp; done) | (simp; omega))) | with_reducible apply Blk.drewN | with_reducible apply Blk.drew))) (fun W4 hb4 Bx Bi => ?_)
        have S4 := S3.below hb4
        have HB4 := Below.thn HB3 hb4 HBs3
        have HBs4 := HB4.size
        have hla := last_ack i
        have HLA := Lib.hid hla
        clear S3 HB3 hb4 hla
        refine wp_region_typed 16 (fun k => match k with | 14 => [13] | _ => []) (fun k => match k with  | _ => false) (fun k => match k with | 3 => some ⟨(Unit), (()), (fun _ => .string (X 7)), (fun _ _ => True), (fun _ _ _ h _ => h)⟩ | 6 => some ⟨(Unit), (()), (fun _ => .string (X i)), (fun _ _ => True), (fun _ _ _ h _ => h)⟩ | 13 => some ⟨(Option Addr × Nat × Nat), ((none, 0, 0)), (fun x => SVx x (X i) i), (fun x w => SenderAt w (SVx x (X i) i) [⟨8, i, X i⟩] (X i) i), (fun x w w' h hb => h.below hb)⟩ | 14 => some ⟨(Unit), (()), (fun _ => .bool true), (fun _ _ => True), (fun _ _ _ h _ => h)⟩ | _ => none) (by kernel_rfl) (by kernel_rfl) (by intro d0 v0 c0 a0 w0 h0; cases d0 <;> exact h0) ?_
        rw [show List.range 16 = [0, 1, 2, 3, 4, 5, 6, 7, 8, 9, 10, 11, 12, 13, 14, 15] from rfl]
        first
          | (refine ty_skip rfl rfl ?_; (try simp only [Act.put, List.setIfInBounds_toArray, List.set_cons_zero, List.set_cons_succ]))
          | (refine ty_pure rfl rfl rfl rfl ?_; apply Exists.intro; refine ⟨fun wq hq hk => ?_, ?_⟩
             · have f0 := hq.blk Bx; have f1 := hq.blk Bi; simp only [pureAt]; go_simp; (try simp only [↓IntWalk.iteOmega]); (try go_bits); (try simp only [pureUpon]); (first | done | exact ⟨rfl, rfl⟩ | exact ⟨trivial, rfl⟩ | rfl)
             (try simp only [Act.put, List.setIfInBounds_toArray, List.set_cons_zero, List.set_cons_succ]))
        first
          | (refine ty_skip rfl rfl ?_; (try simp only [Act.put, List.setIfInBounds_toArray, List.set_cons_zero, List.set_cons_succ]))
          | (refine ty_pure rfl rfl rfl rfl ?_; apply Exists.intro; refine ⟨fun wq hq hk => ?_, ?_⟩
             · have f0 := hq.blk Bx; have f1 := hq.blk Bi; simp only [pureAt]; go_simp; (try simp only [↓IntWalk.iteOmega]); (try go_bits); (try simp only [pureUpon]); (first | done | exact ⟨rfl, rfl⟩ | exact ⟨trivial, rfl⟩ | rfl)
             (try simp only [Act.put, List.setIfInBounds_toArray, List.set_cons_zero, List.set_cons_succ]))
        first
          | (refine ty_skip rfl rfl ?_; (try simp only [Act.put, List.setIfInBounds_toArray, List.set_cons_zero, List.set_cons_succ]))
          | (refine ty_pure rfl rfl rfl rfl ?_; apply Exists.intro; refine ⟨fun wq hq hk => ?_, ?_⟩
             · have f0 := hq.blk Bx; have f1 := hq.blk Bi; simp only [pureAt]; go_simp; (try simp only [↓IntWalk.iteOmega]); (try go_bits); (try simp only [pureUpon]); (first | done | exact ⟨rfl, rfl⟩ | exact ⟨trivial, rfl⟩ | rfl)
             (try simp only [Act.put, List.setIfInBounds_toArray, List.set_cons_zero, List.set_cons_succ]))
        refine ty_rel rfl rfl _ rfl rfl (fun wq hq hk => ?_) ?_
        · have f0 := hq.blk Bx; have f1 := hq.blk Bi; simp only [relAt]; go_simp; (try simp only [relUpon]); (go_at_call 27; refine (rep_any 7 _ (by decide)).mono ?_; rintro e w9 ⟨rfl, hb9⟩; exact ⟨_, rfl, .mk hb9 () rfl trivial⟩)
        rintro ⟨⟩
        (try simp only [Act.put, List.setIfInBounds_toArray, List.set_cons_zero, List.set_cons_succ])
        first
          | (refine ty_skip rfl rfl ?_; (try simp only [Act.put, List.setIfInBounds_toArray, List.set_cons_zero, List.set_cons_succ]))
          | (refine ty_pure rfl rfl rfl rfl ?_; apply Exists.intro; refine ⟨fun wq hq hk => ?_, ?_⟩
             · have f0 := hq.blk Bx; have f1 := hq.blk Bi; simp only [pureAt]; go_simp; (try simp only [↓IntWalk.iteOmega]); (try go_bits); (try simp only [pureUpon]); (first | done | exact ⟨rfl, rfl⟩ | exact ⟨trivial, rfl⟩ | rfl)
             (try simp only [Act.put, List.setIfInBounds_toArray, List.set_cons_zero, List.set_cons_succ]))
        first
          | (refine ty_skip rfl rfl ?_; (try simp only [Act.put, List.setIfInBounds_toArray, List.set_cons_zero, List.set_cons_succ]))
          | (refine ty_pure rfl rfl rfl rfl ?_; apply Exists.intro; refine ⟨fun wq hq hk => ?_, ?_⟩
             · have f0 := hq.blk Bx; have f1 := hq.blk Bi; simp only [pureAt]; go_simp; (try simp only [↓IntWalk.iteOmega]); (try go_bits); (try simp only [pureUpon]); (first | done | exact ⟨rfl, rfl⟩ | exact ⟨trivial, rfl⟩ | rfl)
             (try simp only [Act.put, List.setIfInBounds_toArray, List.set_cons_zero, List.set_cons_succ]))
        refine ty_rel rfl rfl _ rfl rfl (fun wq hq hk => ?_) ?_
        · have f0 := hq.blk Bx; have f1 := hq.blk Bi; simp only [relAt]; go_simp; (try simp only [relUpon]); (go_at_call 27; refine (rep_any i _ hi1000).mono ?_; rintro e w9 ⟨rfl, hb9⟩; exact ⟨_, rfl, .mk hb9 () rfl trivial⟩)
        rintro ⟨⟩
        (try simp only [Act.put, List.setIfInBounds_toArray, List.set_cons_zero, List.set_cons_succ])
        first
          | (refine ty_skip rfl rfl ?_; (try simp only [Act.put, List.setIfInBounds_toArray, List.set_cons_zero, List.set_cons_succ]))
          | (refine ty_pure rfl rfl rfl rfl ?_; apply Exists.intro; refine ⟨fun wq hq hk => ?_, ?_⟩
             · have f0 := hq.blk Bx; have f1 := hq.blk Bi; simp only [pureAt]; go_simp; (try simp only [↓IntWalk.iteOmega]); (try go_bits); (try simp only [pureUpon]); (first | done | exact ⟨rfl, rfl⟩ | exact ⟨trivial, rfl⟩ | rfl)
             (try simp only [Act.put, List.setIfInBounds_toArray, List.set_cons_zero, List.set_cons_succ]))
        first
          | (refine ty_skip rfl rfl ?_; (try simp only [Act.put, List.setIfInBounds_toArray, List.set_cons_zero, List.set_cons_succ]))
          | (refine ty_pure rfl rfl rfl rfl ?_; apply Exists.intro; refine ⟨fun wq hq hk => ?_, ?_⟩
             · have f0 := hq.blk Bx; have f1 := hq.blk Bi; simp only [pureAt]; go_simp; (try simp only [↓IntWalk.iteOmega]); (try go_bits); (try simp only [pureUpon]); (first | done | exact ⟨rfl, rfl⟩ | exact ⟨trivial, rfl⟩ | rfl)
             (try simp only [Act.put, List.setIfInBounds_toArray, List.set_cons_zero, List.set_cons_succ]))
        first
          | (refine ty_skip rfl rfl ?_; (try simp only [Act.put, List.setIfInBounds_toArray, List.set_cons_zero, List.set_cons_succ]))
          | (refine ty_pure rfl rfl rfl rfl ?_; apply Exists.intro; refine ⟨fun wq hq hk => ?_, ?_⟩
             · have f0 := hq.blk Bx; have f1 := hq.blk Bi; simp only [pureAt]; go_simp; (try simp only [↓IntWalk.iteOmega]); (try go_bits); (try simp only [pureUpon]); (first | done | exact ⟨rfl, rfl⟩ | exact ⟨trivial, rfl⟩ | rfl)
             (try simp only [Act.put, List.setIfInBounds_toArray, List.set_cons_zero, List.set_cons_succ]))
        first
          | (refine ty_skip rfl rfl ?_; (try simp only [Act.put, List.setIfInBounds_toArray, List.set_cons_zero, List.set_cons_succ]))
          | (refine ty_pure rfl rfl rfl rfl ?_; apply Exists.intro; refine ⟨fun wq hq hk => ?_, ?_⟩
             · have f0 := hq.blk Bx; have f1 := hq.blk Bi; simp only [pureAt]; go_simp; (try simp only [↓IntWalk.iteOmega]); (try go_bits); (try simp only [pureUpon]); (first | done | exact ⟨rfl, rfl⟩ | exact ⟨trivial, rfl⟩ | rfl)
             (try simp only [Act.put, List.setIfInBounds_toArray, List.set_cons_zero, List.set_cons_succ]))
        first
          | (refine ty_skip rfl rfl ?_; (try simp only [Act.put, List.setIfInBounds_toArray, List.set_cons_zero, List.set_cons_succ]))
          | (refine ty_pure rfl rfl rfl rfl ?_; apply Exists.intro; refine ⟨fun wq hq hk => ?_, ?_⟩
             · have f0 := hq.blk Bx; have f1 := hq.blk Bi; simp only [pureAt]; go_simp; (try simp only [↓IntWalk.iteOmega]); (try go_bits); (try simp only [pureUpon]); (first | done | exact ⟨rfl, rfl⟩ | exact ⟨trivial, rfl⟩ | rfl)
             (try simp only [Act.put, List.setIfInBounds_toArray, List.set_cons_zero, List.set_cons_succ]))
        first
          | (refine ty_skip rfl rfl ?_; (try simp only [Act.put, List.setIfInBounds_toArray, List.set_cons_zero, List.set_cons_succ]))
          | (refine ty_pure rfl rfl rfl rfl ?_; apply Exists.intro; refine ⟨fun wq hq hk => ?_, ?_⟩
             · have f0 := hq.blk Bx; have f1 := hq.blk Bi; simp only [pureAt]; go_simp; (try simp only [↓IntWalk.iteOmega]); (try go_bits); (try simp only [pureUpon]); (first | done | exact ⟨rfl, rfl⟩ | exact ⟨trivial, rfl⟩ | rfl)
             (try simp only [Act.put, List.setIfInBounds_toArray, List.set_cons_zero, List.set_cons_succ]))
        refine ty_rel rfl rfl _ rfl rfl (fun wq hq hk => ?_) ?_
        · have f0 := hq.blk Bx; have f1 := hq.blk Bi; simp only [relAt]; go_simp; (try simp only [relUpon]); (go_at_call 14; refine (acked_any _ _ 8 _ _ _ (S4.below hq.out)).mono ?_; rintro e w9 ⟨v9, rfl, S9, hb9⟩; rw [HLA.out] at S9; obtain ⟨a9, m9, c9, h9⟩ := S9.form; subst h9; exact ⟨_, rfl, .mk hb9 (a9, m9, c9) rfl S9⟩)
        rintro ⟨a5, m5, c5⟩
        (try simp only [Act.put, List.setIfInBounds_toArray, List.set_cons_zero, List.set_cons_succ])
        refine ty_rel rfl rfl _ rfl rfl (fun wq hq hk => ?_) ?_
        · have f0 := hq.blk Bx; have f1 := hq.blk Bi; simp only [relAt]; go_simp; (try simp only [relUpon]); (go_at_call 15; have S5 := hk _ (.head _) rfl; refine (sq_any _ _ _ _ _ S5).mono ?_; rintro e w9 ⟨rfl, hb9⟩; exact ⟨_, rfl, .mk hb9 () (by rw [one_quiet]) trivial⟩)
        rintro ⟨⟩
        (try simp only [Act.put, List.setIfInBounds_toArray, List.set_cons_zero, List.set_cons_succ])
        first
          | (refine ty_skip rfl rfl ?_; (try simp only [Act.put, List.setIfInBounds_toArray, List.set_cons_zero, List.set_cons_succ]))
          | (refine ty_pure rfl rfl rfl rfl ?_; apply Exists.intro; refine ⟨fun wq hq hk => ?_, ?_⟩
             · have f0 := hq.blk Bx; have f1 := hq.blk Bi; simp only [pureAt]; go_simp; (try simp only [↓IntWalk.iteOmega]); (try go_bits); (try simp only [pureUpon]); (first | done | exact ⟨rfl, rfl⟩ | exact ⟨trivial, rfl⟩ | rfl)
             (try simp only [Act.put, List.setIfInBounds_toArray, List.set_cons_zero, List.set_cons_succ]))
        refine ty_nil ?_
        simp only [List.drop_succ_cons, List.drop_zero]
        intro W8 hw8 hΓ
        have HB8 := Below.thn HB4 hw8.out HBs4
        clear hΓ hw8
        go_wp2_with fail
        go_ret
        exact ⟨rfl, HB8⟩
    | succ g =>
      have hi' : (i : Int) < K := by omega
      have hin : i < 30 := by omega
      obtain ⟨i1, hi1⟩ : ∃ i1, i1 = i + 1 := ⟨_, rfl⟩
      have hi1s : i1 ≤ 1000 := by omega
      obtain ⟨i2, hi2⟩ : ∃ i2, i2 = min (i + 2) 8 := ⟨_, rfl⟩
      have e2 : min ((i : Int) + 2) 8 = (i2 : Int) := by omega
      have hl2 : (fl (min i1 7)).length = i2 := by rw [fl_len]; omega
      obtain ⟨ok, hok⟩ : ∃ ok, decide (i < 7) = ok := ⟨_, rfl⟩
      have hok2 : decide ((i : Int) < 7) = ok := by rw [← hok]; exact decide_eq_decide.2 (by omega)
      have hX : (X i1).size ≤ 1000 := by rw [X_size]; omega
      have FN := fun v W => full_next i wait beat v W ok hok hin hwt hbt hw2 hb2
      rw [← hi1] at FN
      have HFN := Lib.hid FN
      have HIJ := Lib.hid hi1
      have HL2 := Lib.hid hl2
      have HE2 := Lib.hid e2; have HOK := Lib.hid hok2
      clear hi FN hok hi1 hl2 hi2 e2 hok2
      obtain ⟨a, m, c, B, S, HB⟩ := V
      have HBs := HB.size
      have Bl := B.lt
      generalize fl (min i 7) = l at *
      generalize min i 7 - 1 = last at *
      go_wp2_with fail
      refine wp_region_typed 16 (fun k => match k with | 9 => [4] | _ => []) (fun k => match k with | 12 => true | 13 => true | _ => false) (fun k => match k with | 3 => some ⟨(Unit), (()), (fun _ => .string (X i1)), (fun _ _ => True), (fun _ _ _ h _ => h)⟩ | 4 => some ⟨(Option Addr × Nat × Nat), ((none, 0, 0)), (fun x => SVx x (X i1) last), (fun x w => SenderAt w (SVx x (X i1) last) l (X i1) last), (fun x w w' h hb => h.below hb)⟩ | 9 => some ⟨((Option Addr × Nat × Nat) × (Nat × Nat × Nat × Nat × ByteArray)), (((none, 0, 0), (0, 0, 0, 0, ⟨#[]⟩))), (fun x => .tuple #[SVx x.1 (X i1) (min i1 7 - 1), IVx x.2, .bool ok]), (fun x w => SenderAt w (SVx x.1 (X i1) (min i1 7 - 1)) (fl (min i1 7)) (X i1) (min i1 7 - 1)), (fun x w w' h hb => h.below hb)⟩ | 14 => some ⟨(Nat), (0), (fun b => .pointer (some ⟨b, 0, none⟩)), (fun b w => wr.heap.size ≤ b ∧ Blk w b #[.nilFunc, .nilFunc, .slice none 0 0, .string ⟨#[]⟩, .int .u64 0] 31), (fun b w w' h hb => ⟨h.1, h.2.below hb⟩)⟩ | 15 => some ⟨(Nat), (0), (fun b => .pointer (some ⟨b, 0, none⟩)), (fun b w => wr.heap.size ≤ b ∧ Blk w b #[.int .u64 0, .int .u64 0, .int .u64 0, .int .u64 0, .string ⟨#[]⟩] 38), (fun b w w' h hb => ⟨h.1, h.2.below hb⟩)⟩ | _ => none) (by kernel_rfl) (by kernel_rfl) (by intro d0 v0 c0 a0 w0 h0; cases d0 <;> exact h0) ?_
      rw [show List.range 16 = [0, 1, 2, 3, 4, 5, 6, 7, 8, 9, 10, 11, 12, 13, 14, 15] from rfl]
      first
        | (refine ty_skip rfl rfl ?_; (try simp only [Act.put, List.setIfInBounds_toArray, List.set_cons_zero, List.set_cons_succ]))
        | (refine ty_pure rfl rfl rfl rfl ?_; apply Exists.intro; refine ⟨fun wq hq hk => ?_, ?_⟩
           · have f0 := hq.blk B; simp only [pureAt]; go_simp; (try simp only [↓IntWalk.iteOmega]); (try go_bits); (try simp only [pureUpon]); (first | done | exact ⟨rfl, rfl⟩ | exact ⟨trivial, rfl⟩ | rfl)
           (try simp only [Act.put, List.setIfInBounds_toArray, List.set_cons_zero, List.set_cons_succ]))
      first
        | (refine ty_skip rfl rfl ?_; (try simp only [Act.put, List.setIfInBounds_toArray, List.set_cons_zero, List.set_cons_succ]))
        | (refine ty_pure rfl rfl rfl rfl ?_; apply Exists.intro; refine ⟨fun wq hq hk => ?_, ?_⟩
           · have f0 := hq.blk B; simp only [pureAt]; go_simp; (try simp only [↓IntWalk.iteOmega]); (try go_bits); (try simp only [pureUpon]); (first | done | exact ⟨rfl, rfl⟩ | exact ⟨trivial, rfl⟩ | rfl)
           (try simp only [Act.put, List.setIfInBounds_toArray, List.set_cons_zero, List.set_cons_succ]))
      first
        | (refine ty_skip rfl rfl ?_; (try simp only [Act.put, List.setIfInBounds_toArray, List.set_cons_zero, List.set_cons_succ]))
        | (refine ty_pure rfl rfl rfl rfl ?_; apply Exists.intro; refine ⟨fun wq hq hk => ?_, ?_⟩
           · have f0 := hq.blk B; simp only [pureAt]; go_simp; (try simp only [↓IntWalk.iteOmega]); (try go_bits); (try simp only [pureUpon]); (first | done | exact ⟨rfl, rfl⟩ | exact ⟨trivial, rfl⟩ | rfl)
           (try simp only [Act.put, List.setIfInBounds_toArray, List.set_cons_zero, List.set_cons_succ]))
      refine ty_rel rfl rfl _ rfl rfl (fun wq hq hk => ?_) ?_
      · have f0 := hq.blk B; simp only [relAt]; go_simp; (try simp only [relUpon]); (go_at_call 27; refine (rep_succ i i1 _ hi1s HIJ).mono ?_; rintro e w9 ⟨rfl, hb9⟩; exact ⟨_, rfl, .mk hb9 () rfl trivial⟩)
      rintro ⟨⟩
      (try simp only [Act.put, List.setIfInBounds_toArray, List.set_cons_zero, List.set_cons_succ])
      refine ty_rel rfl rfl _ rfl rfl (fun wq hq hk => ?_) ?_
      · have f0 := hq.blk B; simp only [relAt]; go_simp; (try simp only [relUpon]); (go_at_call 11; refine (set_any _ _ _ (X i1) _ _ (S.below hq.out) hX).mono ?_; rintro e w9 ⟨v9, rfl, S9, hb9⟩; obtain ⟨a9, m9, c9, h9⟩ := S9.form; subst h9; exact ⟨_, rfl, .mk hb9 (a9, m9, c9) rfl S9⟩)
      rintro ⟨a4, m4, c4⟩
      (try simp only [Act.put, List.setIfInBounds_toArray, List.set_cons_zero, List.set_cons_succ])
      first
        | (refine ty_skip rfl rfl ?_; (try simp only [Act.put, List.setIfInBounds_toArray, List.set_cons_zero, List.set_cons_succ]))
        | (refine ty_pure rfl rfl rfl rfl ?_; apply Exists.intro; refine ⟨fun wq hq hk => ?_, ?_⟩
           · have f0 := hq.blk B; simp only [pureAt]; go_simp; (try simp only [↓IntWalk.iteOmega]); (try go_bits); (try simp only [pureUpon]); (first | done | exact ⟨rfl, rfl⟩ | exact ⟨trivial, rfl⟩ | rfl)
           (try simp only [Act.put, List.setIfInBounds_toArray, List.set_cons_zero, List.set_cons_succ]))
      first
        | (refine ty_skip rfl rfl ?_; (try simp only [Act.put, List.setIfInBounds_toArray, List.set_cons_zero, List.set_cons_succ]))
        | (refine ty_pure rfl rfl rfl rfl ?_; apply Exists.intro; refine ⟨fun wq hq hk => ?_, ?_⟩
           · have f0 := hq.blk B; simp only [pureAt]; go_simp; (try simp only [↓IntWalk.iteOmega]); (try go_bits); (try simp only [pureUpon]); (first | done | exact ⟨rfl, rfl⟩ | exact ⟨trivial, rfl⟩ | rfl)
           (try simp only [Act.put, List.setIfInBounds_toArray, List.set_cons_zero, List.set_cons_succ]))
      first
        | (refine ty_skip rfl rfl ?_; (try simp only [Act.put, List.setIfInBounds_toArray, List.set_cons_zero, List.set_cons_succ]))
        | (refine ty_pure rfl rfl rfl rfl ?_; apply Exists.intro; refine ⟨fun wq hq hk => ?_, ?_⟩
           · have f0 := hq.blk B; simp only [pureAt]; go_simp; (try simp only [↓IntWalk.iteOmega]); (try go_bits); (try simp only [pureUpon]); (first | done | exact ⟨rfl, rfl⟩ | exact ⟨trivial, rfl⟩ | rfl)
           (try simp only [Act.put, List.setIfInBounds_toArray, List.set_cons_zero, List.set_cons_succ]))
      first
        | (refine ty_skip rfl rfl ?_; (try simp only [Act.put, List.setIfInBounds_toArray, List.set_cons_zero, List.set_cons_succ]))
        | (refine ty_pure rfl rfl rfl rfl ?_; apply Exists.intro; refine ⟨fun wq hq hk => ?_, ?_⟩
           · have f0 := hq.blk B; simp only [pureAt]; go_simp; (try simp only [↓IntWalk.iteOmega]); (try go_bits); (try simp only [pureUpon]); (first | done | exact ⟨rfl, rfl⟩ | exact ⟨trivial, rfl⟩ | rfl)
           (try simp only [Act.put, List.setIfInBounds_toArray, List.set_cons_zero, List.set_cons_succ]))
      refine ty_rel rfl rfl _ rfl rfl (fun wq hq hk => ?_) ?_
      · have f0 := hq.blk B; simp only [relAt]; go_simp; (try simp only [relUpon]); (go_at_call 12; have S4 := hk _ (.head _) rfl; refine (HFN.out _ _ S4).mono ?_; rintro e w9 ⟨x, y, rfl, S9, hb9⟩; exact ⟨_, rfl, .mk hb9 (x, y) rfl S9⟩)
      rintro ⟨⟨a9, m9, c9⟩, ⟨y0, y1, y2, y3, ys⟩⟩
      (try simp only [Act.put, List.setIfInBounds_toArray, List.set_cons_zero, List.set_cons_succ])
      first
        | (refine ty_skip rfl rfl ?_; (try simp only [Act.put, List.setIfInBounds_toArray, List.set_cons_zero, List.set_cons_succ]))
        | (refine ty_pure rfl rfl rfl rfl ?_; apply Exists.intro; refine ⟨fun wq hq hk => ?_, ?_⟩
           · have f0 := hq.blk B; simp only [pureAt]; go_simp; (try simp only [↓IntWalk.iteOmega]); (try go_bits); (try simp only [pureUpon]); (first | done | exact ⟨rfl, rfl⟩ | exact ⟨trivial, rfl⟩ | rfl)
           (try simp only [Act.put, List.setIfInBounds_toArray, List.set_cons_zero, List.set_cons_succ]))
      first
        | (refine ty_skip rfl rfl ?_; (try simp only [Act.put, List.setIfInBounds_toArray, List.set_cons_zero, List.set_cons_succ]))
        | (refine ty_pure rfl rfl rfl rfl ?_; apply Exists.intro; refine ⟨fun wq hq hk => ?_, ?_⟩
           · have f0 := hq.blk B; simp only [pureAt]; go_simp; (try simp only [↓IntWalk.iteOmega]); (try go_bits); (try simp only [pureUpon]); (first | done | exact ⟨rfl, rfl⟩ | exact ⟨trivial, rfl⟩ | rfl)
           (try simp only [Act.put, List.setIfInBounds_toArray, List.set_cons_zero, List.set_cons_succ]))
      first
        | (refine ty_skip rfl rfl ?_; (try simp only [Act.put, List.setIfInBounds_toArray, List.set_cons_zero, List.set_cons_succ]))
        | (refine ty_late rfl rfl rfl ?_; apply Exists.intro; refine ⟨fun wq => ?_, ?_⟩
           · simp only [pureAt]; go_simp; (try simp only [↓IntWalk.iteOmega]); (try go_bits); (try simp only [pureUpon]); (first | done | exact ⟨rfl, rfl⟩ | exact ⟨trivial, rfl⟩ | rfl)
           (try simp only [Act.put, List.setIfInBounds_toArray, List.set_cons_zero, List.set_cons_succ]))
      first
        | (refine ty_skip rfl rfl ?_; (try simp only [Act.put, List.setIfInBounds_toArray, List.set_cons_zero, List.set_cons_succ]))
        | (refine ty_late rfl rfl rfl ?_; apply Exists.intro; refine ⟨fun wq => ?_, ?_⟩
           · simp only [pureAt]; go_simp; (try simp only [↓IntWalk.iteOmega]); (try go_bits); (try simp only [pureUpon]); (first | done | exact ⟨rfl, rfl⟩ | exact ⟨trivial, rfl⟩ | rfl)
           (try simp only [Act.put, List.setIfInBounds_toArray, List.set_cons_zero, List.set_cons_succ]))
      refine ty_rel rfl rfl _ rfl rfl (fun wq hq hk => ?_) ?_
      · have f0 := hq.blk B; simp only [relAt]; go_simp; (try simp only [relUpon]); exact .mk ((Below.refl _ _).alloc (Nat.le_refl _) _) wq.heap.size rfl ⟨hq.size, Blk.new wq _ _⟩
      rintro (b10 : Nat)
      (try simp only [Act.put, List.setIfInBounds_toArray, List.set_cons_zero, List.set_cons_succ])
      refine ty_rel rfl rfl _ rfl rfl (fun wq hq hk => ?_) ?_
      · have f0 := hq.blk B; simp only [relAt]; go_simp; (try simp only [relUpon]); exact .mk ((Below.refl _ _).alloc (Nat.le_refl _) _) wq.heap.size rfl ⟨hq.size, Blk.new wq _ _⟩
      rintro (b11 : Nat)
      (try simp only [Act.put, List.setIfInBounds_toArray, List.set_cons_zero, List.set_cons_succ])
      refine ty_nil ?_
      simp only [List.drop_succ_cons, List.drop_zero]
      intro W8 hw8 hΓ
      have A11 : wr.heap.size ≤ b11 ∧ Blk W8 b11 #[.int .u64 0, .int .u64 0, .int .u64 0, .int .u64 0, .string ⟨#[]⟩] 38 := hΓ _ (.head _)
      have A10 : wr.heap.size ≤ b10 ∧ Blk W8 b10 #[.nilFunc, .nilFunc, .slice none 0 0, .string ⟨#[]⟩, .int .u64 0] 31 := hΓ _ (.tail _ (.head _))
      have S9 : SenderAt W8 (SV (.slice a9 m9 c9) (X i1) (min i1 7 - 1 : Nat)) (fl (min i1 7)) (X i1) (min i1 7 - 1) := hΓ _ (.tail _ (.tail _ (.head _)))
      have hw9 := hw8.out
      have hwl := hw9.size
      have n10 : b10 ≠ b5 := by have := A10.1; omega
      have n11 : b11 ≠ b5 := by have := A11.1; omega
      have n12 : b11 ≠ b10 := Blk.ne_ty A11.2 A10.2 (by decide)
      have hl2b : 2 ≤ (fl (min i1 7)).length := by rw [fl_len]; have := HIJ.out; omega
      have g10 : w.heap.size ≤ b10 := by have := A10.1; omega
      have g11 : w.heap.size ≤ b11 := by have := A11.1; omega
      have B8 := B.below hw9
      have HB8 := Below.thn HB hw9 HBs
      have HL2b := Lib.hid hl2b
      clear hΓ hw8 hw9 B S HB Bl hl2b
      refine wpList_put rfl 31 _ _ rfl b10 _ _ 31 rfl rfl A10.2 (by kernel_rfl) rfl (by first | rfl | decide | simp [Value.oneCell']) (fun W9 hp9 B9 => ?_)
      (try simp only [Act.put])
      refine wpList_put rfl 38 _ _ rfl b11 _ _ 38 rfl rfl (hp9.blk n12 A11.2) (by kernel_rfl) rfl (by first | rfl | decide | simp [Value.oneCell']) (fun W10 hp10 B10 => ?_)
      (try simp only [Act.put])
      have S10 := (S9.put HL2b.out A10.2 (by decide) hp9).put HL2b.out (hp9.blk n12 A11.2) (by decide) hp10
      have C10 := hp10.blk (Ne.symm n12) B9
      have B11 := hp10.blk (Ne.symm n11) (hp9.blk (Ne.symm n10) B8)
      have HB10 := hp10.below g11 (hp9.below g10 HB8)
      have HBs10 := HB10.size
      clear hp9 hp10 A10 A11 S9 B9 B8 HB8 B10 hwl
      have hok3 := HOK.out
      have he2 := HE2.out
      have C10c := C10.cell
      go_wp2_with fail
      refine (snum_any _ _ _ _ _ S10).mono ?_
      rintro e W11 ⟨vn, rfl, hn, hb⟩
      obtain ⟨na, nc, rfl⟩ := own_slice hn
      rw [HL2.out]
      have S11 := S10.below hb
      have C11 := C10.below hb
      have D11 := B11.below hb
      have HB11 := Below.thn HB10 hb HBs10
      have HBs11 := HB11.size
      clear S10 C10 C10c B11 HB10 hb hn HBs10
      have C11c := C11.cell; have D11c := D11.cell; have D11f := D11.frozen
      have hfin : i1 = i + 1 := HIJ.out
      have HF := Lib.hid hfin
      clear hfin
      go_wp2_with fail
      obtain ⟨Q1, Q2, Q3⟩ := snd_store D11 S11
      have Q3 := Q3 _ _ HB11 hb5w
      clear D11 S11 HB11 C11c D11c D11f C11
      go_roundg g
      case rel => exact ⟨i1, by have := HF.out; simp; omega, by have := HI.out; have := HF.out; omega, ⟨a9, m9, c9, Q1, Q2, Q3⟩⟩
      case measure => omega
end Go.Proofs.Ytpnbmfpdoipioaa
