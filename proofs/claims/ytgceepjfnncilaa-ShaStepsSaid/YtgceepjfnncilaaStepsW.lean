/- ShaSteps: the walk. -/
import Derived.Test.YtgceepjfnncilaaStepX
namespace Go.Proofs.Ytgceepjfnncilaa
open Go.RowKit

theorem word_of (x : Nat) (hx : x < 4294967296) : ((((x / 2 ^ 24 % 256) * 2 ^ 24) ||| ((x / 2 ^ 16 % 256) * 2 ^ 16)) ||| ((x / 2 ^ 8 % 256) * 2 ^ 8)) ||| (x % 256) = x := by
  have e1 := Nat.two_pow_add_eq_or_of_lt (i := 8) (b := x % 256) (by omega) (x / 2 ^ 8 % 256)
  have e2 := Nat.two_pow_add_eq_or_of_lt (i := 16) (b := 2 ^ 8 * (x / 2 ^ 8 % 256) + x % 256) (by omega) (x / 2 ^ 16 % 256)
  have e3 := Nat.two_pow_add_eq_or_of_lt (i := 24) (b := 2 ^ 16 * (x / 2 ^ 16 % 256) + (2 ^ 8 * (x / 2 ^ 8 % 256) + x % 256)) (by omega) (x / 2 ^ 24 % 256)
  rw [Nat.or_assoc, Nat.or_assoc, Nat.mul_comm (x / 2 ^ 8 % 256), ← e1, Nat.mul_comm (x / 2 ^ 16 % 256), ← e2, Nat.mul_comm (x / 2 ^ 24 % 256), ← e3]
  omega
theorem or_word (y0 y1 y2 y3 x : Nat) (l0 : y0 < 256) (l1 : y1 < 256) (l2 : y2 < 256) (l3 : y3 < 256) (h : ((y0 * 2 ^ 24 ||| y1 * 2 ^ 16) ||| y2 * 2 ^ 8) ||| y3 = x) :
    bits .or .u32 (bits .or .u32 (bits .or .u32 ((y0 : Int) * 16777216) ((y1 : Int) * 65536)) ((y2 : Int) * 256)) (y3 : Int) = (x : Int) := by
  have e0 : (y0 : Int) * 16777216 = ((y0 * 2 ^ 24 : Nat) : Int) := by simp
  have e1 : (y1 : Int) * 65536 = ((y1 * 2 ^ 16 : Nat) : Int) := by simp
  have e2 : (y2 : Int) * 256 = ((y2 * 2 ^ 8 : Nat) : Int) := by simp
  have b1 : y0 * 2 ^ 24 ||| y1 * 2 ^ 16 < 4294967296 := or32 _ _ (by omega) (by omega)
  have b2 : (y0 * 2 ^ 24 ||| y1 * 2 ^ 16) ||| y2 * 2 ^ 8 < 4294967296 := or32 _ _ b1 (by omega)
  rw [e0, e1, e2, u32_or_nat _ _ (by omega) (by omega), u32_or_nat _ _ b1 (by omega), u32_or_nat _ _ b2 (by omega), h]
theorem eq_z35 (W : World) : (Op.equalIn 10000 35 (.agg z35) (.agg z35)).run Try.prog W = .ok true W := by kernel_rfl
theorem row_of_words {W : World} {b : Nat} {t : TypeId} {l : List Nat} (B : Blk W b (nums .u32 l).toArray t) : Row32 W b l := Row32.of_blk B
set_option maxHeartbeats 8000000 in
set_option maxRecDepth 20000 in
theorem steps_walk (h0 h1 h2 h3 h4 h5 h6 h7 : Nat) (hl : SLt ⟨h0, h1, h2, h3, h4, h5, h6, h7⟩) (s : ByteArray) (w : World) (hs : s.size ≤ 300) :
    Calls Try.prog 5 #[.agg (c35 h0 h1 h2 h3 h4 h5 h6 h7), .string s] w fun e w' => e = .returned (.bool true) ∧ Below w.heap.size w w' := by
  have hs1 : ¬ (300 : Int) < s.size := by omega
  have hks : (nums .u32 constK).toArray.size = 64 := by kernel_rfl
  have hhs : (nums .u32 constH).toArray.size = 8 := by kernel_rfl
  have hK1 : (nums .u32 constK).toArray.all (·.oneCell') = true := by kernel_rfl
  have hH1 : (nums .u32 constH).toArray.all (·.oneCell') = true := by kernel_rfl
  go_enter Try.func5, Try.ntmps5
  go_wp2_with fail
  refine (awake03_any _).mono ?_
  rintro e W1 ⟨rfl, hb⟩
  have HB1 : Below w.heap.size w W1 := Below.thn (by (repeat (first | (with_reducible assumption) | (with_reducible exact Below.refl _ _) | with_reducible apply bl_drewN | with_reducible apply Below.drew | (with_reducible apply bl_alloc; focus (first | (simp; done) | (simp; omega) | omega)) | (with_reducible apply bl_set; focus (first | (simp; done) | (simp; omega) | omega))))) hb
  have B0 : Blk W1 w.heap.size (c35 h0 h1 h2 h3 h4 h5 h6 h7) 35 := Blk.below (by (repeat (first | (with_reducible assumption) | (with_reducible apply Blk.new'; (first | (with_reducible rfl) | (simp; done))) | with_reducible apply Blk.alloc | with_reducible apply Blk.set | ((with_reducible apply Blk.set_ne); focus (first | (simp; done) | (simp; omega))) | with_reducible apply Blk.drewN | with_reducible apply Blk.drew))) hb
  have HB1s := HB1.size
  clear hb
  go_wp2_with fail
  refine (keys_any _).mono ?_
  rintro e W2 ⟨rfl, hb⟩
  have HB2 : Below w.heap.size w W2 := Below.thn HB1 hb HB1s
  have B2 := B0.below hb
  have HB2s := HB2.size
  clear hb B0 HB1 HB1s
  go_wp2_with fail
  refine (start_any _).mono ?_
  rintro e W3 ⟨rfl, hb⟩
  have HB3 : Below w.heap.size w W3 := Below.thn HB2 hb HB2s
  have B3 := B2.below hb
  have HB3s := HB3.size
  have B3l := B3.lt
  clear hb B2 HB2 HB2s
  obtain ⟨KK, hKK⟩ : ∃ K, (nums .u32 constK).toArray = K := ⟨_, rfl⟩
  obtain ⟨HH, hHH⟩ : ∃ K, (nums .u32 constH).toArray = K := ⟨_, rfl⟩
  rw [hKK, hHH]
  rw [hKK] at hks hK1
  rw [hHH] at hhs hH1
  go_upto_region 6 with (first | (refine wpList_put rfl 36 _ _ rfl W3.heap.size _ _ 36 rfl rfl (by (repeat (first | (with_reducible assumption) | (with_reducible apply Blk.new'; (first | (with_reducible rfl) | (simp; done))) | with_reducible apply Blk.alloc | with_reducible apply Blk.set | ((with_reducible apply Blk.set_ne); focus (first | (simp; done) | (simp; omega))) | with_reducible apply Blk.drewN | with_reducible apply Blk.drew))) (by rw [hks]; kernel_rfl) (hks.trans rfl) hK1 (fun W9 hp9 B9 => ?_)) | (refine wpList_put rfl 35 _ _ rfl (W3.heap.size + 1) _ _ 35 rfl rfl (hp9.blk (by simp) (by (repeat (first | (with_reducible assumption) | (with_reducible apply Blk.new'; (first | (with_reducible rfl) | (simp; done))) | with_reducible apply Blk.alloc | with_reducible apply Blk.set | ((with_reducible apply Blk.set_ne); focus (first | (simp; done) | (simp; omega))) | with_reducible apply Blk.drewN | with_reducible apply Blk.drew)))) (by rw [hhs]; kernel_rfl) (hhs.trans rfl) hH1 (fun W10 hp10 B10 => ?_)))
  have HB4 : Below w.heap.size w W10 := hp10.below (by omega) (hp9.below (by omega) (by (repeat (first | (with_reducible assumption) | (with_reducible exact Below.refl _ _) | with_reducible apply bl_drewN | with_reducible apply Below.drew | (with_reducible apply bl_alloc; focus (first | (simp; done) | (simp; omega) | omega)) | (with_reducible apply bl_set; focus (first | (simp; done) | (simp; omega) | omega))))))
  have A4 : Blk W10 w.heap.size (c35 h0 h1 h2 h3 h4 h5 h6 h7) 35 := hp10.blk (by omega) (hp9.blk (by omega) (Blk.alloc (Blk.alloc B3)))
  have K4 : Blk W10 W3.heap.size (nums .u32 constK).toArray 36 := by rw [hKK]; exact hp10.blk (by omega) B9
  have S4 : Blk W10 (W3.heap.size + 1) (nums .u32 constH).toArray 35 := by rw [hHH]; exact B10
  clear hp9 hp10 B9 B10 hks hhs hK1 hH1 hKK hHH B3 HB3
  obtain ⟨bk, hbk⟩ : ∃ b, W3.heap.size = b := ⟨_, rfl⟩
  rw [hbk] at K4 S4 HB3s B3l ⊢
  obtain ⟨bs, hbs⟩ : ∃ b, bk + 1 = b := ⟨_, rfl⟩
  rw [hbs] at S4 ⊢
  clear hbk
  have RK := row_of_words K4
  have RS := row_of_words S4
  go_wp2_with fail
  refine wp_region_typed 9 (fun k => match k with | 2 => [1] | 7 => [6] | _ => []) (fun k => match k with  | _ => false) (fun k => match k with | 1 => some ⟨(Nat), (0), (fun b => .slice (some ⟨b, 0, none⟩) 64 64), (fun b w => Row32 w b constK), (fun b w w' h hb => h.below hb)⟩ | 2 => some ⟨(Unit), (()), (fun _ => .bool true), (fun _ _ => True), (fun _ _ _ h _ => h)⟩ | 6 => some ⟨(Nat), (0), (fun b => .slice (some ⟨b, 0, none⟩) 8 8), (fun b w => Row32 w b constH), (fun b w w' h hb => h.below hb)⟩ | 7 => some ⟨(Unit), (()), (fun _ => .bool true), (fun _ _ => True), (fun _ _ _ h _ => h)⟩ | _ => none) (by kernel_rfl) (by kernel_rfl) (by intro d0 v0 c0 a0 w0 h0; first | (cases d0 <;> exact h0) | exact hP _ _ _ _ _ h0) ?_
  rw [show List.range 9 = [0, 1, 2, 3, 4, 5, 6, 7, 8] from rfl]
  first
    | (refine ty_skip rfl rfl ?_; (try simp only [Act.put, List.setIfInBounds_toArray, List.set_cons_zero, List.set_cons_succ]))
    | (refine ty_pure rfl rfl rfl rfl ?_; apply Exists.intro; refine ⟨fun wq hq hk => ?_, ?_⟩
       · simp only [pureAt]; go_simp; (try simp only [↓IntWalk.iteOmega]); (try go_bits); (try simp only [pureUpon]); (first | done | exact ⟨rfl, rfl⟩ | exact ⟨trivial, rfl⟩ | rfl)
       (try simp only [Act.put, List.setIfInBounds_toArray, List.set_cons_zero, List.set_cons_succ]))
  refine ty_rel rfl rfl _ rfl rfl (fun wq hq hk => ?_) ?_
  · simp only [relAt]; go_simp; (try simp only [relUpon]); (go_at_call 22; refine (rk_any _).mono ?_; rintro e w9 ⟨b9, rfl, _, Bk9, hb9⟩; exact ⟨_, rfl, .mk hb9 b9 rfl (row_of_words Bk9)⟩)
  rintro (b1 : Nat)
  (try simp only [Act.put, List.setIfInBounds_toArray, List.set_cons_zero, List.set_cons_succ])
  refine ty_rel rfl rfl _ rfl rfl (fun wq hq hk => ?_) ?_
  · have hr := hk _ (.head _) rfl; simp only [relAt]; go_simp; (try simp only [relUpon]); (go_at_call 21; refine (eq32_any bk _ 64 64 64 constK constK _ rfl rfl (by decide) (RK.below hq.out) hr).mono ?_; rintro e w9 ⟨rfl, hb9⟩; exact ⟨_, rfl, .mk hb9 () (by rw [decide_eq_true rfl]) trivial⟩)
  rintro ⟨⟩
  (try simp only [Act.put, List.setIfInBounds_toArray, List.set_cons_zero, List.set_cons_succ])
  first
    | (refine ty_skip rfl rfl ?_; (try simp only [Act.put, List.setIfInBounds_toArray, List.set_cons_zero, List.set_cons_succ]))
    | (refine ty_pure rfl rfl rfl rfl ?_; apply Exists.intro; refine ⟨fun wq hq hk => ?_, ?_⟩
       · simp only [pureAt]; go_simp; (try simp only [↓IntWalk.iteOmega]); (try go_bits); (try simp only [pureUpon]); (first | done | exact ⟨rfl, rfl⟩ | exact ⟨trivial, rfl⟩ | rfl)
       (try simp only [Act.put, List.setIfInBounds_toArray, List.set_cons_zero, List.set_cons_succ]))
  first
    | (refine ty_skip rfl rfl ?_; (try simp only [Act.put, List.setIfInBounds_toArray, List.set_cons_zero, List.set_cons_succ]))
    | (refine ty_pure rfl rfl rfl rfl ?_; apply Exists.intro; refine ⟨fun wq hq hk => ?_, ?_⟩
       · simp only [pureAt]; go_simp; (try simp only [↓IntWalk.iteOmega]); (try go_bits); (try simp only [pureUpon]); (first | done | exact ⟨rfl, rfl⟩ | exact ⟨trivial, rfl⟩ | rfl)
       (try simp only [Act.put, List.setIfInBounds_toArray, List.set_cons_zero, List.set_cons_succ]))
  first
    | (refine ty_skip rfl rfl ?_; (try simp only [Act.put, List.setIfInBounds_toArray, List.set_cons_zero, List.set_cons_succ]))
    | (refine ty_pure rfl rfl rfl rfl ?_; apply Exists.intro; refine ⟨fun wq hq hk => ?_, ?_⟩
       · simp only [pureAt]; go_simp; (try simp only [↓IntWalk.iteOmega]); (try go_bits); (try simp only [pureUpon]); (first | done | exact ⟨rfl, rfl⟩ | exact ⟨trivial, rfl⟩ | rfl)
       (try simp only [Act.put, List.setIfInBounds_toArray, List.set_cons_zero, List.set_cons_succ]))
  refine ty_rel rfl rfl _ rfl rfl (fun wq hq hk => ?_) ?_
  · simp only [relAt]; go_simp; (try simp only [relUpon]); (go_at_call 23; refine (rstart_any _).mono ?_; rintro e w9 ⟨b9, rfl, _, Bk9, hb9⟩; exact ⟨_, rfl, .mk hb9 b9 rfl (row_of_words Bk9)⟩)
  rintro (b6 : Nat)
  (try simp only [Act.put, List.setIfInBounds_toArray, List.set_cons_zero, List.set_cons_succ])
  refine ty_rel rfl rfl _ rfl rfl (fun wq hq hk => ?_) ?_
  · have hr := hk _ (.head _) rfl; simp only [relAt]; go_simp; (try simp only [relUpon]); (go_at_call 21; refine (eq32_any bs _ 8 8 8 constH constH _ rfl rfl (by decide) (RS.below hq.out) hr).mono ?_; rintro e w9 ⟨rfl, hb9⟩; exact ⟨_, rfl, .mk hb9 () (by rw [decide_eq_true rfl]) trivial⟩)
  rintro ⟨⟩
  (try simp only [Act.put, List.setIfInBounds_toArray, List.set_cons_zero, List.set_cons_succ])
  first
    | (refine ty_skip rfl rfl ?_; (try simp only [Act.put, List.setIfInBounds_toArray, List.set_cons_zero, List.set_cons_succ]))
    | (refine ty_pure rfl rfl rfl rfl ?_; apply Exists.intro; refine ⟨fun wq hq hk => ?_, ?_⟩
       · simp only [pureAt]; go_simp; (try simp only [↓IntWalk.iteOmega]); (try go_bits); (try simp only [pureUpon]); (first | done | exact ⟨rfl, rfl⟩ | exact ⟨trivial, rfl⟩ | rfl)
       (try simp only [Act.put, List.setIfInBounds_toArray, List.set_cons_zero, List.set_cons_succ]))
  refine ty_nil ?_
  simp only [List.drop_succ_cons, List.drop_zero]
  intro W5 hw5 hΓ
  have HB5 := Below.thn HB4 hw5.out HB4.size
  have A5 := A4.below hw5.out
  have S5 := S4.below hw5.out
  clear hΓ hw5 HB4 A4 S4 K4 RK RS
  have HB5s := HB5.size
  have hWd : Words [h0, h1, h2, h3, h4, h5, h6, h7] := ⟨rfl, fun x hx => by
    simp only [List.mem_cons, List.mem_nil_iff, or_false] at hx
    rcases hx with rfl | rfl | rfl | rfl | rfl | rfl | rfl | rfl
    · exact hl.a
    · exact hl.b
    · exact hl.c
    · exact hl.d
    · exact hl.e
    · exact hl.f
    · exact hl.g
    · exact hl.o⟩
  have hbw : w.heap.size < bs := by omega
  have A5c := A5.cell; have A5l := A5.lt
  by_cases h64 : s.size = 64
  · have h64i : (s.size : Int) = 64 := by omega
    have hst := fun W => stepx_any [h0, h1, h2, h3, h4, h5, h6, h7] hWd s W h64
    have hrs := fun b W R => rstep_any b 8 [h0, h1, h2, h3, h4, h5, h6, h7] hWd s W h64 R
    have hw2 := step_words [h0, h1, h2, h3, h4, h5, h6, h7] s.data.toList
    obtain ⟨X, hX⟩ : ∃ X, stepL [h0, h1, h2, h3, h4, h5, h6, h7] s.data.toList = X := ⟨_, rfl⟩
    rw [hX] at hst hrs hw2
    have HST := Lib.hid hst; have HRS := Lib.hid hrs
    clear hst hrs hX
    have hs8 : (nums .u32 X).toArray.size = 8 := by rw [List.size_toArray, nums_length, hw2.1]
    go_wp2_with fail
    refine (HST.out _).mono ?_
    rintro e W6 ⟨rfl, hb⟩
    have HB6 := Below.thn HB5 hb HB5s
    have A6 := A5.below hb; have S6 := S5.below hb
    have HB6s := HB6.size
    have A6l := A6.lt; have S6l := S6.lt
    clear hb HB5 A5 S5 A5c A5l HST
    go_upto_region 9 with (refine wpList_put rfl 35 _ _ rfl W6.heap.size _ _ 35 rfl rfl (by (repeat (first | (with_reducible assumption) | (with_reducible apply Blk.new'; (first | (with_reducible rfl) | (simp; done))) | with_reducible apply Blk.alloc | with_reducible apply Blk.set | ((with_reducible apply Blk.set_ne); focus (first | (simp; done) | (simp; omega))) | with_reducible apply Blk.drewN | with_reducible apply Blk.drew))) (by rw [hs8]; kernel_rfl) (hs8.trans rfl) (words_all X) (fun W7 hp9 B7 => ?_))
    have HB7 : Below w.heap.size w W7 := hp9.below (by omega) (by (repeat (first | (with_reducible assumption) | (with_reducible exact Below.refl _ _) | with_reducible apply bl_drewN | with_reducible apply Below.drew | (with_reducible apply bl_alloc; focus (first | (simp; done) | (simp; omega) | omega)) | (with_reducible apply bl_set; focus (first | (simp; done) | (simp; omega) | omega)))))
    have A7 : Blk W7 w.heap.size (nums .u32 [h0, h1, h2, h3, h4, h5, h6, h7]).toArray 35 := hp9.blk (by omega) (Blk.alloc (A6.conv rfl))
    have S7 := hp9.blk (q := bs) (by omega) (Blk.alloc S6)
    clear hp9 HB6 A6 S6
    have RA := row_of_words A7
    have RX := row_of_words B7
    obtain ⟨b7, hb7⟩ : ∃ b, W6.heap.size = b := ⟨_, rfl⟩
    rw [hb7] at RX ⊢
    go_wp2_with fail
    refine wp_region_typed 9 (fun k => match k with | 7 => [6] | _ => []) (fun k => match k with  | _ => false) (fun k => match k with | 6 => some ⟨(Nat), (0), (fun b => .slice (some ⟨b, 0, none⟩) 8 8), (fun b w => Row32 w b X), (fun b w w' h hb => h.below hb)⟩ | 7 => some ⟨(Unit), (()), (fun _ => .bool true), (fun _ _ => True), (fun _ _ _ h _ => h)⟩ | _ => none) (by kernel_rfl) (by kernel_rfl) (by intro d0 v0 c0 a0 w0 h0; first | (cases d0 <;> exact h0) | exact hP _ _ _ _ _ h0) ?_
    rw [show List.range 9 = [0, 1, 2, 3, 4, 5, 6, 7, 8] from rfl]
    first
      | (refine ty_skip rfl rfl ?_; (try simp only [Act.put, List.setIfInBounds_toArray, List.set_cons_zero, List.set_cons_succ]))
      | (refine ty_pure rfl rfl rfl rfl ?_; apply Exists.intro; refine ⟨fun wq hq hk => ?_, ?_⟩
         · simp only [pureAt]; go_simp; (try simp only [↓IntWalk.iteOmega]); (try go_bits); (try simp only [pureUpon]); (first | done | exact ⟨rfl, rfl⟩ | exact ⟨trivial, rfl⟩ | rfl)
         (try simp only [Act.put, List.setIfInBounds_toArray, List.set_cons_zero, List.set_cons_succ]))
    first
      | (refine ty_skip rfl rfl ?_; (try simp only [Act.put, List.setIfInBounds_toArray, List.set_cons_zero, List.set_cons_succ]))
      | (refine ty_pure rfl rfl rfl rfl ?_; apply Exists.intro; refine ⟨fun wq hq hk => ?_, ?_⟩
         · simp only [pureAt]; go_simp; (try simp only [↓IntWalk.iteOmega]); (try go_bits); (try simp only [pureUpon]); (first | done | exact ⟨rfl, rfl⟩ | exact ⟨trivial, rfl⟩ | rfl)
         (try simp only [Act.put, List.setIfInBounds_toArray, List.set_cons_zero, List.set_cons_succ]))
    first
      | (refine ty_skip rfl rfl ?_; (try simp only [Act.put, List.setIfInBounds_toArray, List.set_cons_zero, List.set_cons_succ]))
      | (refine ty_pure rfl rfl rfl rfl ?_; apply Exists.intro; refine ⟨fun wq hq hk => ?_, ?_⟩
         · simp only [pureAt]; go_simp; (try simp only [↓IntWalk.iteOmega]); (try go_bits); (try simp only [pureUpon]); (first | done | exact ⟨rfl, rfl⟩ | exact ⟨trivial, rfl⟩ | rfl)
         (try simp only [Act.put, List.setIfInBounds_toArray, List.set_cons_zero, List.set_cons_succ]))
    first
      | (refine ty_skip rfl rfl ?_; (try simp only [Act.put, List.setIfInBounds_toArray, List.set_cons_zero, List.set_cons_succ]))
      | (refine ty_pure rfl rfl rfl rfl ?_; apply Exists.intro; refine ⟨fun wq hq hk => ?_, ?_⟩
         · simp only [pureAt]; go_simp; (try simp only [↓IntWalk.iteOmega]); (try go_bits); (try simp only [pureUpon]); (first | done | exact ⟨rfl, rfl⟩ | exact ⟨trivial, rfl⟩ | rfl)
         (try simp only [Act.put, List.setIfInBounds_toArray, List.set_cons_zero, List.set_cons_succ]))
    first
      | (refine ty_skip rfl rfl ?_; (try simp only [Act.put, List.setIfInBounds_toArray, List.set_cons_zero, List.set_cons_succ]))
      | (refine ty_pure rfl rfl rfl rfl ?_; apply Exists.intro; refine ⟨fun wq hq hk => ?_, ?_⟩
         · simp only [pureAt]; go_simp; (try simp only [↓IntWalk.iteOmega]); (try go_bits); (try simp only [pureUpon]); (first | done | exact ⟨rfl, rfl⟩ | exact ⟨trivial, rfl⟩ | rfl)
         (try simp only [Act.put, List.setIfInBounds_toArray, List.set_cons_zero, List.set_cons_succ]))
    first
      | (refine ty_skip rfl rfl ?_; (try simp only [Act.put, List.setIfInBounds_toArray, List.set_cons_zero, List.set_cons_succ]))
      | (refine ty_pure rfl rfl rfl rfl ?_; apply Exists.intro; refine ⟨fun wq hq hk => ?_, ?_⟩
         · simp only [pureAt]; go_simp; (try simp only [↓IntWalk.iteOmega]); (try go_bits); (try simp only [pureUpon]); (first | done | exact ⟨rfl, rfl⟩ | exact ⟨trivial, rfl⟩ | rfl)
         (try simp only [Act.put, List.setIfInBounds_toArray, List.set_cons_zero, List.set_cons_succ]))
    refine ty_rel rfl rfl _ rfl rfl (fun wq hq hk => ?_) ?_
    · simp only [relAt]; go_simp; (try simp only [relUpon]); (go_at_call 25; refine (HRS.out w.heap.size _ (RA.below hq.out)).mono ?_; rintro e w9 ⟨b9, rfl, _, Bk9, hb9⟩; exact ⟨_, rfl, .mk hb9 b9 rfl Bk9⟩)
    rintro (b6 : Nat)
    (try simp only [Act.put, List.setIfInBounds_toArray, List.set_cons_zero, List.set_cons_succ])
    refine ty_rel rfl rfl _ rfl rfl (fun wq hq hk => ?_) ?_
    · have hr := hk _ (.head _) rfl; simp only [relAt]; go_simp; (try simp only [relUpon]); (go_at_call 21; refine (eq32_any b7 _ 8 8 8 X X _ hw2.1 hw2.1 (by decide) (RX.below hq.out) hr).mono ?_; rintro e w9 ⟨rfl, hb9⟩; exact ⟨_, rfl, .mk hb9 () (by rw [decide_eq_true rfl]) trivial⟩)
    rintro ⟨⟩
    (try simp only [Act.put, List.setIfInBounds_toArray, List.set_cons_zero, List.set_cons_succ])
    first
      | (refine ty_skip rfl rfl ?_; (try simp only [Act.put, List.setIfInBounds_toArray, List.set_cons_zero, List.set_cons_succ]))
      | (refine ty_pure rfl rfl rfl rfl ?_; apply Exists.intro; refine ⟨fun wq hq hk => ?_, ?_⟩
         · simp only [pureAt]; go_simp; (try simp only [↓IntWalk.iteOmega]); (try go_bits); (try simp only [pureUpon]); (first | done | exact ⟨rfl, rfl⟩ | exact ⟨trivial, rfl⟩ | rfl)
         (try simp only [Act.put, List.setIfInBounds_toArray, List.set_cons_zero, List.set_cons_succ]))
    refine ty_nil ?_
    simp only [List.drop_succ_cons, List.drop_zero]
    intro W8 hw8 hΓ
    have HB8 := Below.thn HB7 hw8.out HB7.size
    have S9 := S7.below hw8.out
    clear hΓ hw8 HB7 A7 S7 B7 RA RX HRS hs8 hw2
    -- the words behind all of the text
    have S8 : Blk W8 bs (c35 0x6a09e667 0xbb67ae85 0x3c6ef372 0xa54ff53a 0x510e527f 0x9b05688c 0x1f83d9ab 0x5be0cd19) 35 := S9.conv rfl
    have S8c := S8.cell; have S8l := S8.lt
    have HB8s := HB8.size
    go_upto_region 15 with fail
    obtain ⟨b9, hb9⟩ : ∃ b, W8.heap.size = b := ⟨_, rfl⟩
    refine wp_absQ (fun W => Below w.heap.size w W ∧ Blk W b9 (nums .u32 constH).toArray 35 ∧ w.heap.size ≤ b9) ⟨by (repeat (first | (with_reducible assumption) | (with_reducible exact Below.refl _ _) | with_reducible apply bl_drewN | with_reducible apply Below.drew | (with_reducible apply bl_alloc; focus (first | (simp; done) | (simp; omega) | omega)) | (with_reducible apply bl_set; focus (first | (simp; done) | (simp; omega) | omega)))), by rw [← hb9]; exact (Blk.new' rfl : Blk (W8.alloc (.cells (c35 0x6a09e667 0xbb67ae85 0x3c6ef372 0xa54ff53a 0x510e527f 0x9b05688c 0x1f83d9ab 0x5be0cd19) 35)) W8.heap.size _ 35).conv rfl, by omega⟩ (fun W15 V15 => ?_)
    obtain ⟨HB15, B15, hb9l⟩ := V15
    rw [hb9]
    clear S8 S8c S8l HB8s S9 HB8 hb9
    obtain ⟨F, hF⟩ : ∃ F, wordsL s.data.toList = F := ⟨_, rfl⟩
    have hFw : Words F := by rw [← hF]; exact words_words _
    have hsum : sumL s.data.toList = textL F := by rw [← hF]; rfl
    obtain ⟨S, hS⟩ : ∃ S : ByteArray, (⟨(wholeL s.data.toList).toArray⟩ : ByteArray) = S := ⟨_, rfl⟩
    have hSl : S.data.toList = wholeL s.data.toList := by rw [← hS]
    have hSs : S.size = (wholeL s.data.toList).length := by rw [← hSl]; rfl
    obtain ⟨N, hN⟩ : ∃ N, S.size = 64 * N := ⟨S.size / 64, by rw [hSs]; have := whole_mod s.data.toList; omega⟩
    have hgo : sumGo N constH S.data.toList = F := by
      rw [← hF, hSl]; unfold wordsL; rw [← hSs, hN, Nat.mul_div_cancel_left _ (by decide)]
    have hW := fun W => whole_any s W (by omega)
    rw [hS] at hW
    have HW := Lib.hid hW; have HGO := Lib.hid hgo; have HN := Lib.hid hN
    have hsr := fun b W t B => sum_row b [s] s W t B (catB_one s) (by omega) (by simp)
    rw [hsum] at hsr
    have HSR := Lib.hid hsr
    clear hW hgo hN hF hsum hS hSl hSs hsr
    have HB15s := HB15.size
    have hb9lt := B15.lt
    go_wp2_with fail
    refine (HW.out _).mono ?_
    rintro e W16 ⟨rfl, hb⟩
    have HB16 := Below.thn HB15 hb HB15s
    have B16 := B15.below hb
    clear hb HB15 B15 HB15s HW hb9lt
    go_wp2_with fail
    go_loopg [8, 10] N (fun gk t8 t10 wr => ∃ (S : ByteArray) (H : List Nat), t10 = .string S ∧ S.size = 64 * gk ∧ Words H ∧ sumGo gk H S.data.toList = F ∧ Below w.heap.size w wr ∧ Blk wr b9 (nums .u32 H).toArray 35)
    case atStart => exact ⟨S, constH, rfl, HN.out, start_words, HGO.out, HB16, B16⟩
    case round =>
      clear HB16 B16 HN HGO
      obtain ⟨S, H, rfl, hN, hHw, hgo, HB, B⟩ := hrel
      cases gk with
      | zero =>
        obtain rfl : S = ⟨#[]⟩ := by
          have h0 : S.data.size = 0 := by show S.size = 0; omega
          have : S.data = #[] := Array.eq_empty_of_size_eq_zero h0
          show (⟨S.data⟩ : ByteArray) = _
          rw [this]
        have hF : H = F := hgo
        subst hF
        clear hgo hN
        have HBs := HB.size
        have Bl := B.lt
        go_wp2_with fail
        refine (HSR.out wr.heap.size _ 9 ((Blk.new' rfl).conv rfl)).mono ?_
        rintro e W17 ⟨rfl, hb⟩
        have HB17 : Below w.heap.size w W17 := Below.thn (by (repeat (first | (with_reducible assumption) | (with_reducible exact Below.refl _ _) | with_reducible apply bl_drewN | with_reducible apply Below.drew | (with_reducible apply bl_alloc; focus (first | (simp; done) | (simp; omega) | omega)) | (with_reducible apply bl_set; focus (first | (simp; done) | (simp; omega) | omega))))) hb
        have B17 : Blk W17 b9 (nums .u32 H).toArray 35 := Blk.below (by (repeat (first | (with_reducible assumption) | (with_reducible apply Blk.new'; (first | (with_reducible rfl) | (simp; done))) | with_reducible apply Blk.alloc | with_reducible apply Blk.set | ((with_reducible apply Blk.set_ne); focus (first | (simp; done) | (simp; omega))) | with_reducible apply Blk.drewN | with_reducible apply Blk.drew))) hb
        have HB17s := HB17.size
        have B17l := B17.lt
        clear hb HB B HBs Bl
        obtain ⟨f0, f1, f2, f3, f4, f5, f6, f7, rfl, hf⟩ := words_form hHw
        have hCs : ((textL [f0, f1, f2, f3, f4, f5, f6, f7]).map bval).toArray.size = 32 := by rw [List.size_toArray, List.length_map, textL_len]; rfl
        have hall : ((textL [f0, f1, f2, f3, f4, f5, f6, f7]).map bval).toArray.all (·.oneCell') = true := all_oneCell_toArray (fun v hv => by obtain ⟨n, _, rfl⟩ := List.mem_map.1 hv; rfl)
        have hcell : ∀ i c, (textL [f0, f1, f2, f3, f4, f5, f6, f7])[i]? = some (UInt8.ofNat c) → ((textL [f0, f1, f2, f3, f4, f5, f6, f7]).map bval).toArray[i]? = some (Value.int .u8 ((c % 256 : Nat) : Int)) := fun i c h => by
          rw [List.getElem?_toArray, List.getElem?_map, h]
          simp only [Option.map_some, bval, UInt8.toNat_ofNat']
        have k0 := hcell 0 (f0 / 2 ^ 24) rfl
        have k1 := hcell 1 (f0 / 2 ^ 16) rfl
        have k2 := hcell 2 (f0 / 2 ^ 8) rfl
        have k3 := hcell 3 f0 rfl
        have k31 := hcell 31 f7 rfl
        obtain ⟨C, hC⟩ : ∃ C, ((textL [f0, f1, f2, f3, f4, f5, f6, f7]).map bval).toArray = C := ⟨_, rfl⟩
        rw [hC] at hCs hall k0 k1 k2 k3 k31 ⊢
        have hfw := word_of f0 hf.a
        have hf0l : f0 < 4294967296 := hf.a
        have hf7l : f7 < 4294967296 := hf.o
        obtain ⟨y0, hy0⟩ : ∃ y, f0 / 2 ^ 24 % 256 = y := ⟨_, rfl⟩
        obtain ⟨y1, hy1⟩ : ∃ y, f0 / 2 ^ 16 % 256 = y := ⟨_, rfl⟩
        obtain ⟨y2, hy2⟩ : ∃ y, f0 / 2 ^ 8 % 256 = y := ⟨_, rfl⟩
        obtain ⟨y3, hy3⟩ : ∃ y, f0 % 256 = y := ⟨_, rfl⟩
        rw [hy0] at k0 hfw; rw [hy1] at k1 hfw; rw [hy2] at k2 hfw; rw [hy3] at k3 hfw
        have l0 : y0 < 256 := by rw [← hy0]; exact Nat.mod_lt _ (by decide)
        have l1 : y1 < 256 := by rw [← hy1]; exact Nat.mod_lt _ (by decide)
        have l2 : y2 < 256 := by rw [← hy2]; exact Nat.mod_lt _ (by decide)
        have l3 : y3 < 256 := by rw [← hy3]; exact Nat.mod_lt _ (by decide)
        have e31 : (f7 : Int) % 256 = ((f7 % 256 : Nat) : Int) := by simp
        obtain ⟨y7, hy7⟩ : ∃ y, f7 % 256 = y := ⟨_, rfl⟩
        rw [hy7] at e31 k31
        clear hcell hC hy0 hy1 hy2 hy3 hy7 hf hl hHw
        go_upto_region 22 with (refine wpList_put rfl 26 _ _ rfl W17.heap.size _ _ 26 rfl rfl (by (repeat (first | (with_reducible assumption) | (with_reducible apply Blk.new'; (first | (with_reducible rfl) | (simp; done))) | with_reducible apply Blk.alloc | with_reducible apply Blk.set | ((with_reducible apply Blk.set_ne); focus (first | (simp; done) | (simp; omega))) | with_reducible apply Blk.drewN | with_reducible apply Blk.drew))) (by rw [hCs]; kernel_rfl) (hCs.trans rfl) hall (fun W18 hp9 B18 => ?_))
        have HB18 : Below w.heap.size w W18 := hp9.below (by omega) (by (repeat (first | (with_reducible assumption) | (with_reducible exact Below.refl _ _) | with_reducible apply bl_drewN | with_reducible apply Below.drew | (with_reducible apply bl_alloc; focus (first | (simp; done) | (simp; omega) | omega)) | (with_reducible apply bl_set; focus (first | (simp; done) | (simp; omega) | omega)))))
        have B19 : Blk W18 b9 (c35 f0 f1 f2 f3 f4 f5 f6 f7) 35 := hp9.blk (by omega) (Blk.alloc (B17.conv rfl))
        clear hp9 B17 HB17
        have c0 : W18.cell? ⟨W17.heap.size, 0, none⟩ = some (.int .u8 y0) := (B18.cell 0).trans k0
        have c1 : W18.cell? ⟨W17.heap.size, 1, none⟩ = some (.int .u8 y1) := (B18.cell 1).trans k1
        have c2 : W18.cell? ⟨W17.heap.size, 2, none⟩ = some (.int .u8 y2) := (B18.cell 2).trans k2
        have c3 : W18.cell? ⟨W17.heap.size, 3, none⟩ = some (.int .u8 y3) := (B18.cell 3).trans k3
        have c31 : W18.cell? ⟨W17.heap.size, 31, none⟩ = some (.int .u8 y7) := (B18.cell 31).trans k31
        have d0 := B19.cell 0
        have d7 := B19.cell 7
        have B18l := B18.lt; have B19l := B19.lt
        clear k0 k1 k2 k3 k31 B18 B19 hCs hall
        have hor := or_word y0 y1 y2 y3 f0 l0 l1 l2 l3 hfw
        go_wp2_with fail
        go_ret
        exact ⟨by simp, HB18⟩
      | succ gk =>
        have hne : S.toList.isEmpty = false := by
          rw [ba_toList, List.isEmpty_eq_false_iff]
          intro h
          have : S.data.size = 0 := by rw [← Array.length_toList, h]; rfl
          exact absurd this (by show S.size ≠ 0; omega)
        have hle : (64 : Int) ≤ (S.size : Int) := by omega
        have hl64 : S.data.toList.length = 64 * (gk + 1) := hN
        have hgo2 : sumGo gk (stepL H (S.data.toList.take 64)) (S.data.toList.drop 64) = F := by
          rw [← hgo]
          show _ = if S.data.toList = [] then H else _
          rw [if_neg (by intro h; rw [h] at hl64; simp at hl64)]
        have HGO := Lib.hid hgo2
        have HN := Lib.hid hN
        clear hgo hgo2 hl64 hN
        obtain ⟨S64, hS64⟩ : ∃ t, S.extract 0 64 = t := ⟨_, rfl⟩
        have hSl : S64.data.toList = S.data.toList.take 64 := by rw [← hS64, ba_extract]; simp
        have hS6 : S64.size = 64 := by rw [← hS64, ByteArray.size_extract]; have := HN.out; omega
        obtain ⟨SR, hSR⟩ : ∃ t, S.extract 64 S.size = t := ⟨_, rfl⟩
        have hSRl : SR.data.toList = S.data.toList.drop 64 := by
          rw [← hSR, ba_extract, List.take_of_length_le (by rw [List.length_drop]; exact Nat.le_refl _)]
        have hSRs : SR.size = 64 * gk := by rw [← hSR, ByteArray.size_extract]; have := HN.out; omega
        obtain ⟨H2, hH2⟩ : ∃ K, stepL H (S.data.toList.take 64) = K := ⟨_, rfl⟩
        have hw2 : Words H2 := by rw [← hH2]; exact step_words _ _
        have hgo := HGO.out
        rw [hH2, ← hSRl] at hgo
        have hst := fun W => stepx_any H hHw S64 W hS6
        rw [hSl, hH2] at hst
        obtain ⟨g0, g1, g2, g3, g4, g5, g6, g7, rfl, hlt⟩ := words_form hHw
        have BHx : Blk wr b9 (c35 g0 g1 g2 g3 g4 g5 g6 g7) 35 := B.conv rfl
        have HST := Lib.hid hst; have HGO2 := Lib.hid hgo; have HSR2 := Lib.hid hSRs
        have HBs := HB.size
        clear hst hgo HGO hHw hlt hSl hS6 hSRl hSRs hH2 B
        go_wp2_with fail
        refine wp_region_typed 7 (fun k => match k with  | _ => []) (fun k => match k with | 6 => true | _ => false) (fun k => match k with | 3 => some ⟨(Unit), (()), (fun _ => .tuple #[.agg (nums .u32 H2).toArray, .int .i64 0]), (fun _ _ => True), (fun _ _ _ h _ => h)⟩ | _ => none) (by kernel_rfl) (by kernel_rfl) (by intro d0 v0 c0 a0 w0 h0; first | (cases d0 <;> exact h0) | exact hP _ _ _ _ _ h0) ?_
        rw [show List.range 7 = [0, 1, 2, 3, 4, 5, 6] from rfl]
        first
          | (refine ty_skip rfl rfl ?_; (try simp only [Act.put, List.setIfInBounds_toArray, List.set_cons_zero, List.set_cons_succ]))
          | (refine ty_pure rfl rfl rfl rfl ?_; apply Exists.intro; refine ⟨fun wq hq hk => ?_, ?_⟩
             · have f0 := hq.blk BHx; simp only [pureAt]; go_simp; (try simp only [↓IntWalk.iteOmega]); (try go_bits); (try simp only [pureUpon]); (first | done | exact ⟨rfl, rfl⟩ | exact ⟨trivial, rfl⟩ | rfl)
             (try simp only [Act.put, List.setIfInBounds_toArray, List.set_cons_zero, List.set_cons_succ]))
        first
          | (refine ty_skip rfl rfl ?_; (try simp only [Act.put, List.setIfInBounds_toArray, List.set_cons_zero, List.set_cons_succ]))
          | (refine ty_pure rfl rfl rfl rfl ?_; apply Exists.intro; refine ⟨fun wq hq hk => ?_, ?_⟩
             · have f0 := hq.blk BHx; simp only [pureAt]; go_simp; (try simp only [↓IntWalk.iteOmega]); (try go_bits); (try simp only [pureUpon]); (first | done | exact ⟨rfl, rfl⟩ | exact ⟨trivial, rfl⟩ | rfl)
             (try simp only [Act.put, List.setIfInBounds_toArray, List.set_cons_zero, List.set_cons_succ]))
        first
          | (refine ty_skip rfl rfl ?_; (try simp only [Act.put, List.setIfInBounds_toArray, List.set_cons_zero, List.set_cons_succ]))
          | (refine ty_pure rfl rfl rfl rfl ?_; apply Exists.intro; refine ⟨fun wq hq hk => ?_, ?_⟩
             · have f0 := hq.blk BHx; simp only [pureAt]; go_simp; (try simp only [↓IntWalk.iteOmega]); (try go_bits); (try simp only [pureUpon]); (first | done | exact ⟨rfl, rfl⟩ | exact ⟨trivial, rfl⟩ | rfl)
             (try simp only [Act.put, List.setIfInBounds_toArray, List.set_cons_zero, List.set_cons_succ]))
        refine ty_rel rfl rfl _ rfl rfl (fun wq hq hk => ?_) ?_
        · have f0 := hq.blk BHx; simp only [relAt]; go_simp; (try simp only [relUpon]); (go_at_call 24; refine (HST.out _).mono ?_; rintro e w9 ⟨rfl, hb9⟩; exact ⟨_, rfl, .mk hb9 () rfl trivial⟩)
        rintro ⟨⟩
        (try simp only [Act.put, List.setIfInBounds_toArray, List.set_cons_zero, List.set_cons_succ])
        first
          | (refine ty_skip rfl rfl ?_; (try simp only [Act.put, List.setIfInBounds_toArray, List.set_cons_zero, List.set_cons_succ]))
          | (refine ty_pure rfl rfl rfl rfl ?_; apply Exists.intro; refine ⟨fun wq hq hk => ?_, ?_⟩
             · have f0 := hq.blk BHx; simp only [pureAt]; go_simp; (try simp only [↓IntWalk.iteOmega]); (try go_bits); (try simp only [pureUpon]); (first | done | exact ⟨rfl, rfl⟩ | exact ⟨trivial, rfl⟩ | rfl)
             (try simp only [Act.put, List.setIfInBounds_toArray, List.set_cons_zero, List.set_cons_succ]))
        first
          | (refine ty_skip rfl rfl ?_; (try simp only [Act.put, List.setIfInBounds_toArray, List.set_cons_zero, List.set_cons_succ]))
          | (refine ty_pure rfl rfl rfl rfl ?_; apply Exists.intro; refine ⟨fun wq hq hk => ?_, ?_⟩
             · have f0 := hq.blk BHx; simp only [pureAt]; go_simp; (try simp only [↓IntWalk.iteOmega]); (try go_bits); (try simp only [pureUpon]); (first | done | exact ⟨rfl, rfl⟩ | exact ⟨trivial, rfl⟩ | rfl)
             (try simp only [Act.put, List.setIfInBounds_toArray, List.set_cons_zero, List.set_cons_succ]))
        first
          | (refine ty_skip rfl rfl ?_; (try simp only [Act.put, List.setIfInBounds_toArray, List.set_cons_zero, List.set_cons_succ]))
          | (refine ty_late rfl rfl rfl ?_; apply Exists.intro; refine ⟨fun wq => ?_, ?_⟩
             · simp only [pureAt]; go_simp; (try simp only [↓IntWalk.iteOmega]); (try go_bits); (try simp only [pureUpon]); (first | done | exact ⟨rfl, rfl⟩ | exact ⟨trivial, rfl⟩ | rfl)
             (try simp only [Act.put, List.setIfInBounds_toArray, List.set_cons_zero, List.set_cons_succ]))
        refine ty_nil ?_
        simp only [List.drop_succ_cons, List.drop_zero]
        intro W5 hw5 hΓ
        have HB6 := Below.thn HB hw5.out HBs
        have B6 := BHx.below hw5.out
        clear hΓ hw5 BHx HB
        have hs8 : (nums .u32 H2).toArray.size = 8 := by rw [List.size_toArray, nums_length, hw2.1]
        go_wp2_with (refine wpList_put rfl 35 _ _ rfl b9 _ _ 35 rfl rfl B6 (by rw [hs8]; kernel_rfl) (hs8.trans rfl) (words_all H2) (fun W9 hp9 B9 => ?_))
        have HB9 := hp9.below (by omega) HB6
        clear hp9 HB6 B6 hs8
        all_goals
          go_roundg gk
          case rel => exact ⟨SR, H2, rfl, HSR2.out, hw2, HGO2.out, HB9, B9⟩
          case measure => omega
  · have h64i : ¬ (s.size : Int) = 64 := by omega
    go_wp2_with fail
    refine (stepx_bad h0 h1 h2 h3 h4 h5 h6 h7 s _ h64).mono ?_
    rintro e W6 ⟨rfl, hb⟩
    have HB6 := Below.thn HB5 hb HB5s
    have S6 := S5.below hb
    have HB6s := HB6.size
    have S6l := S6.lt
    clear hb HB5 A5 S5 A5c A5l
    go_upto_region 9 with fail
    refine wp_absQ (fun W => Below w.heap.size w W ∧ Blk W bs (nums .u32 constH).toArray 35 ∧ Blk W W6.heap.size z35 35) ⟨by (repeat (first | (with_reducible assumption) | (with_reducible exact Below.refl _ _) | with_reducible apply bl_drewN | with_reducible apply Below.drew | (with_reducible apply bl_alloc; focus (first | (simp; done) | (simp; omega) | omega)) | (with_reducible apply bl_set; focus (first | (simp; done) | (simp; omega) | omega)))), Blk.alloc S6, (Blk.new' rfl)⟩ (fun W8 V8 => ?_)
    obtain ⟨HB8, S9, Z8⟩ := V8
    have Z8c := Z8.cell; have Z8l := Z8.lt
    have eqz := eq_z35
    clear S6 HB6
    go_upto_region 14 with fail
    clear Z8c Z8l Z8 eqz
    -- the words behind all of the text
    have S8 : Blk W8 bs (c35 0x6a09e667 0xbb67ae85 0x3c6ef372 0xa54ff53a 0x510e527f 0x9b05688c 0x1f83d9ab 0x5be0cd19) 35 := S9.conv rfl
    have S8c := S8.cell; have S8l := S8.lt
    have HB8s := HB8.size
    go_upto_region 15 with fail
    obtain ⟨b9, hb9⟩ : ∃ b, W8.heap.size = b := ⟨_, rfl⟩
    refine wp_absQ (fun W => Below w.heap.size w W ∧ Blk W b9 (nums .u32 constH).toArray 35 ∧ w.heap.size ≤ b9) ⟨by (repeat (first | (with_reducible assumption) | (with_reducible exact Below.refl _ _) | with_reducible apply bl_drewN | with_reducible apply Below.drew | (with_reducible apply bl_alloc; focus (first | (simp; done) | (simp; omega) | omega)) | (with_reducible apply bl_set; focus (first | (simp; done) | (simp; omega) | omega)))), by rw [← hb9]; exact (Blk.new' rfl : Blk (W8.alloc (.cells (c35 0x6a09e667 0xbb67ae85 0x3c6ef372 0xa54ff53a 0x510e527f 0x9b05688c 0x1f83d9ab 0x5be0cd19) 35)) W8.heap.size _ 35).conv rfl, by omega⟩ (fun W15 V15 => ?_)
    obtain ⟨HB15, B15, hb9l⟩ := V15
    rw [hb9]
    clear S8 S8c S8l HB8s S9 HB8 hb9
    obtain ⟨F, hF⟩ : ∃ F, wordsL s.data.toList = F := ⟨_, rfl⟩
    have hFw : Words F := by rw [← hF]; exact words_words _
    have hsum : sumL s.data.toList = textL F := by rw [← hF]; rfl
    obtain ⟨S, hS⟩ : ∃ S : ByteArray, (⟨(wholeL s.data.toList).toArray⟩ : ByteArray) = S := ⟨_, rfl⟩
    have hSl : S.data.toList = wholeL s.data.toList := by rw [← hS]
    have hSs : S.size = (wholeL s.data.toList).length := by rw [← hSl]; rfl
    obtain ⟨N, hN⟩ : ∃ N, S.size = 64 * N := ⟨S.size / 64, by rw [hSs]; have := whole_mod s.data.toList; omega⟩
    have hgo : sumGo N constH S.data.toList = F := by
      rw [← hF, hSl]; unfold wordsL; rw [← hSs, hN, Nat.mul_div_cancel_left _ (by decide)]
    have hW := fun W => whole_any s W (by omega)
    rw [hS] at hW
    have HW := Lib.hid hW; have HGO := Lib.hid hgo; have HN := Lib.hid hN
    have hsr := fun b W t B => sum_row b [s] s W t B (catB_one s) (by omega) (by simp)
    rw [hsum] at hsr
    have HSR := Lib.hid hsr
    clear hW hgo hN hF hsum hS hSl hSs hsr
    have HB15s := HB15.size
    have hb9lt := B15.lt
    go_wp2_with fail
    refine (HW.out _).mono ?_
    rintro e W16 ⟨rfl, hb⟩
    have HB16 := Below.thn HB15 hb HB15s
    have B16 := B15.below hb
    clear hb HB15 B15 HB15s HW hb9lt
    go_wp2_with fail
    go_loopg [8, 10] N (fun gk t8 t10 wr => ∃ (S : ByteArray) (H : List Nat), t10 = .string S ∧ S.size = 64 * gk ∧ Words H ∧ sumGo gk H S.data.toList = F ∧ Below w.heap.size w wr ∧ Blk wr b9 (nums .u32 H).toArray 35)
    case atStart => exact ⟨S, constH, rfl, HN.out, start_words, HGO.out, HB16, B16⟩
    case round =>
      clear HB16 B16 HN HGO
      obtain ⟨S, H, rfl, hN, hHw, hgo, HB, B⟩ := hrel
      cases gk with
      | zero =>
        obtain rfl : S = ⟨#[]⟩ := by
          have h0 : S.data.size = 0 := by show S.size = 0; omega
          have : S.data = #[] := Array.eq_empty_of_size_eq_zero h0
          show (⟨S.data⟩ : ByteArray) = _
          rw [this]
        have hF : H = F := hgo
        subst hF
        clear hgo hN
        have HBs := HB.size
        have Bl := B.lt
        go_wp2_with fail
        refine (HSR.out wr.heap.size _ 9 ((Blk.new' rfl).conv rfl)).mono ?_
        rintro e W17 ⟨rfl, hb⟩
        have HB17 : Below w.heap.size w W17 := Below.thn (by (repeat (first | (with_reducible assumption) | (with_reducible exact Below.refl _ _) | with_reducible apply bl_drewN | with_reducible apply Below.drew | (with_reducible apply bl_alloc; focus (first | (simp; done) | (simp; omega) | omega)) | (with_reducible apply bl_set; focus (first | (simp; done) | (simp; omega) | omega))))) hb
        have B17 : Blk W17 b9 (nums .u32 H).toArray 35 := Blk.below (by (repeat (first | (with_reducible assumption) | (with_reducible apply Blk.new'; (first | (with_reducible rfl) | (simp; done))) | with_reducible apply Blk.alloc | with_reducible apply Blk.set | ((with_reducible apply Blk.set_ne); focus (first | (simp; done) | (simp; omega))) | with_reducible apply Blk.drewN | with_reducible apply Blk.drew))) hb
        have HB17s := HB17.size
        have B17l := B17.lt
        clear hb HB B HBs Bl
        obtain ⟨f0, f1, f2, f3, f4, f5, f6, f7, rfl, hf⟩ := words_form hHw
        have hCs : ((textL [f0, f1, f2, f3, f4, f5, f6, f7]).map bval).toArray.size = 32 := by rw [List.size_toArray, List.length_map, textL_len]; rfl
        have hall : ((textL [f0, f1, f2, f3, f4, f5, f6, f7]).map bval).toArray.all (·.oneCell') = true := all_oneCell_toArray (fun v hv => by obtain ⟨n, _, rfl⟩ := List.mem_map.1 hv; rfl)
        have hcell : ∀ i c, (textL [f0, f1, f2, f3, f4, f5, f6, f7])[i]? = some (UInt8.ofNat c) → ((textL [f0, f1, f2, f3, f4, f5, f6, f7]).map bval).toArray[i]? = some (Value.int .u8 ((c % 256 : Nat) : Int)) := fun i c h => by
          rw [List.getElem?_toArray, List.getElem?_map, h]
          simp only [Option.map_some, bval, UInt8.toNat_ofNat']
        have k0 := hcell 0 (f0 / 2 ^ 24) rfl
        have k1 := hcell 1 (f0 / 2 ^ 16) rfl
        have k2 := hcell 2 (f0 / 2 ^ 8) rfl
        have k3 := hcell 3 f0 rfl
        have k31 := hcell 31 f7 rfl
        obtain ⟨C, hC⟩ : ∃ C, ((textL [f0, f1, f2, f3, f4, f5, f6, f7]).map bval).toArray = C := ⟨_, rfl⟩
        rw [hC] at hCs hall k0 k1 k2 k3 k31 ⊢
        have hfw := word_of f0 hf.a
        have hf0l : f0 < 4294967296 := hf.a
        have hf7l : f7 < 4294967296 := hf.o
        obtain ⟨y0, hy0⟩ : ∃ y, f0 / 2 ^ 24 % 256 = y := ⟨_, rfl⟩
        obtain ⟨y1, hy1⟩ : ∃ y, f0 / 2 ^ 16 % 256 = y := ⟨_, rfl⟩
        obtain ⟨y2, hy2⟩ : ∃ y, f0 / 2 ^ 8 % 256 = y := ⟨_, rfl⟩
        obtain ⟨y3, hy3⟩ : ∃ y, f0 % 256 = y := ⟨_, rfl⟩
        rw [hy0] at k0 hfw; rw [hy1] at k1 hfw; rw [hy2] at k2 hfw; rw [hy3] at k3 hfw
        have l0 : y0 < 256 := by rw [← hy0]; exact Nat.mod_lt _ (by decide)
        have l1 : y1 < 256 := by rw [← hy1]; exact Nat.mod_lt _ (by decide)
        have l2 : y2 < 256 := by rw [← hy2]; exact Nat.mod_lt _ (by decide)
        have l3 : y3 < 256 := by rw [← hy3]; exact Nat.mod_lt _ (by decide)
        have e31 : (f7 : Int) % 256 = ((f7 % 256 : Nat) : Int) := by simp
        obtain ⟨y7, hy7⟩ : ∃ y, f7 % 256 = y := ⟨_, rfl⟩
        rw [hy7] at e31 k31
        clear hcell hC hy0 hy1 hy2 hy3 hy7 hf hl hHw
        go_upto_region 22 with (refine wpList_put rfl 26 _ _ rfl W17.heap.size _ _ 26 rfl rfl (by (repeat (first | (with_reducible assumption) | (with_reducible apply Blk.new'; (first | (with_reducible rfl) | (simp; done))) | with_reducible apply Blk.alloc | with_reducible apply Blk.set | ((with_reducible apply Blk.set_ne); focus (first | (simp; done) | (simp; omega))) | with_reducible apply Blk.drewN | with_reducible apply Blk.drew))) (by rw [hCs]; kernel_rfl) (hCs.trans rfl) hall (fun W18 hp9 B18 => ?_))
        have HB18 : Below w.heap.size w W18 := hp9.below (by omega) (by (repeat (first | (with_reducible assumption) | (with_reducible exact Below.refl _ _) | with_reducible apply bl_drewN | with_reducible apply Below.drew | (with_reducible apply bl_alloc; focus (first | (simp; done) | (simp; omega) | omega)) | (with_reducible apply bl_set; focus (first | (simp; done) | (simp; omega) | omega)))))
        have B19 : Blk W18 b9 (c35 f0 f1 f2 f3 f4 f5 f6 f7) 35 := hp9.blk (by omega) (Blk.alloc (B17.conv rfl))
        clear hp9 B17 HB17
        have c0 : W18.cell? ⟨W17.heap.size, 0, none⟩ = some (.int .u8 y0) := (B18.cell 0).trans k0
        have c1 : W18.cell? ⟨W17.heap.size, 1, none⟩ = some (.int .u8 y1) := (B18.cell 1).trans k1
        have c2 : W18.cell? ⟨W17.heap.size, 2, none⟩ = some (.int .u8 y2) := (B18.cell 2).trans k2
        have c3 : W18.cell? ⟨W17.heap.size, 3, none⟩ = some (.int .u8 y3) := (B18.cell 3).trans k3
        have c31 : W18.cell? ⟨W17.heap.size, 31, none⟩ = some (.int .u8 y7) := (B18.cell 31).trans k31
        have d0 := B19.cell 0
        have d7 := B19.cell 7
        have B18l := B18.lt; have B19l := B19.lt
        clear k0 k1 k2 k3 k31 B18 B19 hCs hall
        have hor := or_word y0 y1 y2 y3 f0 l0 l1 l2 l3 hfw
        go_wp2_with fail
        go_ret
        exact ⟨by simp, HB18⟩
      | succ gk =>
        have hne : S.toList.isEmpty = false := by
          rw [ba_toList, List.isEmpty_eq_false_iff]
          intro h
          have : S.data.size = 0 := by rw [← Array.length_toList, h]; rfl
          exact absurd this (by show S.size ≠ 0; omega)
        have hle : (64 : Int) ≤ (S.size : Int) := by omega
        have hl64 : S.data.toList.length = 64 * (gk + 1) := hN
        have hgo2 : sumGo gk (stepL H (S.data.toList.take 64)) (S.data.toList.drop 64) = F := by
          rw [← hgo]
          show _ = if S.data.toList = [] then H else _
          rw [if_neg (by intro h; rw [h] at hl64; simp at hl64)]
        have HGO := Lib.hid hgo2
        have HN := Lib.hid hN
        clear hgo hgo2 hl64 hN
        obtain ⟨S64, hS64⟩ : ∃ t, S.extract 0 64 = t := ⟨_, rfl⟩
        have hSl : S64.data.toList = S.data.toList.take 64 := by rw [← hS64, ba_extract]; simp
        have hS6 : S64.size = 64 := by rw [← hS64, ByteArray.size_extract]; have := HN.out; omega
        obtain ⟨SR, hSR⟩ : ∃ t, S.extract 64 S.size = t := ⟨_, rfl⟩
        have hSRl : SR.data.toList = S.data.toList.drop 64 := by
          rw [← hSR, ba_extract, List.take_of_length_le (by rw [List.length_drop]; exact Nat.le_refl _)]
        have hSRs : SR.size = 64 * gk := by rw [← hSR, ByteArray.size_extract]; have := HN.out; omega
        obtain ⟨H2, hH2⟩ : ∃ K, stepL H (S.data.toList.take 64) = K := ⟨_, rfl⟩
        have hw2 : Words H2 := by rw [← hH2]; exact step_words _ _
        have hgo := HGO.out
        rw [hH2, ← hSRl] at hgo
        have hst := fun W => stepx_any H hHw S64 W hS6
        rw [hSl, hH2] at hst
        obtain ⟨g0, g1, g2, g3, g4, g5, g6, g7, rfl, hlt⟩ := words_form hHw
        have BHx : Blk wr b9 (c35 g0 g1 g2 g3 g4 g5 g6 g7) 35 := B.conv rfl
        have HST := Lib.hid hst; have HGO2 := Lib.hid hgo; have HSR2 := Lib.hid hSRs
        have HBs := HB.size
        clear hst hgo HGO hHw hlt hSl hS6 hSRl hSRs hH2 B
        go_wp2_with fail
        refine wp_region_typed 7 (fun k => match k with  | _ => []) (fun k => match k with | 6 => true | _ => false) (fun k => match k with | 3 => some ⟨(Unit), (()), (fun _ => .tuple #[.agg (nums .u32 H2).toArray, .int .i64 0]), (fun _ _ => True), (fun _ _ _ h _ => h)⟩ | _ => none) (by kernel_rfl) (by kernel_rfl) (by intro d0 v0 c0 a0 w0 h0; first | (cases d0 <;> exact h0) | exact hP _ _ _ _ _ h0) ?_
        rw [show List.range 7 = [0, 1, 2, 3, 4, 5, 6] from rfl]
        first
          | (refine ty_skip rfl rfl ?_; (try simp only [Act.put, List.setIfInBounds_toArray, List.set_cons_zero, List.set_cons_succ]))
          | (refine ty_pure rfl rfl rfl rfl ?_; apply Exists.intro; refine ⟨fun wq hq hk => ?_, ?_⟩
             · have f0 := hq.blk BHx; simp only [pureAt]; go_simp; (try simp only [↓IntWalk.iteOmega]); (try go_bits); (try simp only [pureUpon]); (first | done | exact ⟨rfl, rfl⟩ | exact ⟨trivial, rfl⟩ | rfl)
             (try simp only [Act.put, List.setIfInBounds_toArray, List.set_cons_zero, List.set_cons_succ]))
        first
          | (refine ty_skip rfl rfl ?_; (try simp only [Act.put, List.setIfInBounds_toArray, List.set_cons_zero, List.set_cons_succ]))
          | (refine ty_pure rfl rfl rfl rfl ?_; apply Exists.intro; refine ⟨fun wq hq hk => ?_, ?_⟩
             · have f0 := hq.blk BHx; simp only [pureAt]; go_simp; (try simp only [↓IntWalk.iteOmega]); (try go_bits); (try simp only [pureUpon]); (first | done | exact ⟨rfl, rfl⟩ | exact ⟨trivial, rfl⟩ | rfl)
             (try simp only [Act.put, List.setIfInBounds_toArray, List.set_cons_zero, List.set_cons_succ]))
        first
          | (refine ty_skip rfl rfl ?_; (try simp only [Act.put, List.setIfInBounds_toArray, List.set_cons_zero, List.set_cons_succ]))
          | (refine ty_pure rfl rfl rfl rfl ?_; apply Exists.intro; refine ⟨fun wq hq hk => ?_, ?_⟩
             · have f0 := hq.blk BHx; simp only [pureAt]; go_simp; (try simp only [↓IntWalk.iteOmega]); (try go_bits); (try simp only [pureUpon]); (first | done | exact ⟨rfl, rfl⟩ | exact ⟨trivial, rfl⟩ | rfl)
             (try simp only [Act.put, List.setIfInBounds_toArray, List.set_cons_zero, List.set_cons_succ]))
        refine ty_rel rfl rfl _ rfl rfl (fun wq hq hk => ?_) ?_
        · have f0 := hq.blk BHx; simp only [relAt]; go_simp; (try simp only [relUpon]); (go_at_call 24; refine (HST.out _).mono ?_; rintro e w9 ⟨rfl, hb9⟩; exact ⟨_, rfl, .mk hb9 () rfl trivial⟩)
        rintro ⟨⟩
        (try simp only [Act.put, List.setIfInBounds_toArray, List.set_cons_zero, List.set_cons_succ])
        first
          | (refine ty_skip rfl rfl ?_; (try simp only [Act.put, List.setIfInBounds_toArray, List.set_cons_zero, List.set_cons_succ]))
          | (refine ty_pure rfl rfl rfl rfl ?_; apply Exists.intro; refine ⟨fun wq hq hk => ?_, ?_⟩
             · have f0 := hq.blk BHx; simp only [pureAt]; go_simp; (try simp only [↓IntWalk.iteOmega]); (try go_bits); (try simp only [pureUpon]); (first | done | exact ⟨rfl, rfl⟩ | exact ⟨trivial, rfl⟩ | rfl)
             (try simp only [Act.put, List.setIfInBounds_toArray, List.set_cons_zero, List.set_cons_succ]))
        first
          | (refine ty_skip rfl rfl ?_; (try simp only [Act.put, List.setIfInBounds_toArray, List.set_cons_zero, List.set_cons_succ]))
          | (refine ty_pure rfl rfl rfl rfl ?_; apply Exists.intro; refine ⟨fun wq hq hk => ?_, ?_⟩
             · have f0 := hq.blk BHx; simp only [pureAt]; go_simp; (try simp only [↓IntWalk.iteOmega]); (try go_bits); (try simp only [pureUpon]); (first | done | exact ⟨rfl, rfl⟩ | exact ⟨trivial, rfl⟩ | rfl)
             (try simp only [Act.put, List.setIfInBounds_toArray, List.set_cons_zero, List.set_cons_succ]))
        first
          | (refine ty_skip rfl rfl ?_; (try simp only [Act.put, List.setIfInBounds_toArray, List.set_cons_zero, List.set_cons_succ]))
          | (refine ty_late rfl rfl rfl ?_; apply Exists.intro; refine ⟨fun wq => ?_, ?_⟩
             · simp only [pureAt]; go_simp; (try simp only [↓IntWalk.iteOmega]); (try go_bits); (try simp only [pureUpon]); (first | done | exact ⟨rfl, rfl⟩ | exact ⟨trivial, rfl⟩ | rfl)
             (try simp only [Act.put, List.setIfInBounds_toArray, List.set_cons_zero, List.set_cons_succ]))
        refine ty_nil ?_
        simp only [List.drop_succ_cons, List.drop_zero]
        intro W5 hw5 hΓ
        have HB6 := Below.thn HB hw5.out HBs
        have B6 := BHx.below hw5.out
        clear hΓ hw5 BHx HB
        have hs8 : (nums .u32 H2).toArray.size = 8 := by rw [List.size_toArray, nums_length, hw2.1]
        go_wp2_with (refine wpList_put rfl 35 _ _ rfl b9 _ _ 35 rfl rfl B6 (by rw [hs8]; kernel_rfl) (hs8.trans rfl) (words_all H2) (fun W9 hp9 B9 => ?_))
        have HB9 := hp9.below (by omega) HB6
        clear hp9 HB6 B6 hs8
        all_goals
          go_roundg gk
          case rel => exact ⟨SR, H2, rfl, HSR2.out, hw2, HGO2.out, HB9, B9⟩
          case measure => omega
set_option maxHeartbeats 4000000 in
set_option maxRecDepth 20000 in
theorem steps_long (h0 h1 h2 h3 h4 h5 h6 h7 : Nat) (s : ByteArray) (w : World) (h : 300 < s.size) (hb : s.size < 2 ^ 62) : Calls Try.prog 5 #[.agg (c35 h0 h1 h2 h3 h4 h5 h6 h7), .string s] w fun e w' => e = .returned (.bool true) ∧ Below w.heap.size w w' := by
  have hmx : (300 : Int) < s.size := by omega
  clear h hb
  go_enter Try.func5, Try.ntmps5
  go_wp2_with fail
  refine (awake03_any _).mono ?_
  rintro e W1 ⟨rfl, hb⟩
  have HB1 : Below w.heap.size w W1 := Below.thn (by (repeat (first | (with_reducible assumption) | (with_reducible exact Below.refl _ _) | with_reducible apply bl_drewN | with_reducible apply Below.drew | (with_reducible apply bl_alloc; focus (first | (simp; done) | (simp; omega) | omega)) | (with_reducible apply bl_set; focus (first | (simp; done) | (simp; omega) | omega))))) hb
  clear hb
  go_wp2_with fail
  go_ret
  exact ⟨rfl, HB1⟩
end Go.Proofs.Ytgceepjfnncilaa
