/- Package delta: Do at any text; the two looks; what is awake. -/
import Derived.Test.YtgdmeaoghhkknaaDel6
import Derived.Test.YtgdmeaoghhkknaaPutsW
namespace Go.Proofs.Ytgdmeaoghhkknaa
open Go.RowKit

theorem doL_no (s : Scr) (l : List UInt8) (h1 : l.head? ≠ some 102) (h2 : l.length < 3 ∨ l.head? ≠ some 100) : doL s l = none := by
  cases l with
  | nil => rfl
  | cons c r =>
    have hc : c ≠ 102 := fun h => h1 (by rw [h]; rfl)
    unfold doL
    simp only [if_neg hc]
    split
    · rename_i x y r' e1
      rcases h2 with h | h
      · simp at h; omega
      · exact absurd rfl h
    · rfl
theorem do_any (s : Scr) (d : ByteArray) (w : World) (hs : s.Ok) (hd : d.size ≤ 10000) :
    Calls Try.prog 28 #[VV s.w s.h s.x s.y (txt s.b), .string d] w fun e w' => e = .returned (pv (doL s d.data.toList)) ∧ Below w.heap.size w w' := by
  by_cases h1 : d.data.toList.head? = some 102
  · cases hl : d.data.toList with
    | nil => rw [hl] at h1; cases h1
    | cons c r =>
      rw [hl] at h1
      obtain rfl : c = 102 := Option.some.inj h1
      rw [doL_f]
      have h5 := fun W => checked_any s d ⟨r.toArray⟩ W hs (by
        have h6 : d.data.toList.length = d.size := rfl
        rw [hl] at h6
        show r.length ≤ 100000
        simp at h6; omega)
      rw [hl] at h5
      obtain ⟨a, b, c, e, f, z, hR⟩ := pv_form (chkL s (102 :: r) r)
      have h7 : (⟨r.toArray⟩ : ByteArray).data.toList = r := rfl
      rw [h7, hR] at h5
      rw [hR]
      exact do_whole _ _ _ _ _ _ _ _ _ _ d _ _ w (fun W => cut_yes d 102 r hl W) h5
  · by_cases h2 : d.size < 3 ∨ d.data.toList.head? ≠ some 100
    · rw [doL_no s _ h1 h2]
      exact do_short _ _ _ _ _ d w h1 h2
    · have h3 : 3 ≤ d.data.toList.length := by show 3 ≤ d.size; omega
      have h4 : d.data.toList.head? = some 100 := by
        by_cases h5 : d.data.toList.head? = some 100
        · exact h5
        · exact absurd (Or.inr h5) h2
      match hl : d.data.toList, h3, h4 with
      | c :: x :: y :: r, _, h4 =>
        obtain rfl : c = 100 := Option.some.inj h4
        have := do_parts s d w hs hd x y r hl
        rw [hl] at this
        exact this

theorem RScrAt.first {w : World} {s : Scr} {b4 off4 c4 : Nat} {n : Nat} {a1 a2 a3 a4 : Int} (h : RScrAt w (RV a1 a2 a3 a4 (.slice (some ⟨b4, off4, none⟩) n c4)) s) (hs : s.Ok) : ∃ r0 : ByteArray, 0 < r0.size ∧ w.cell? ⟨b4, off4, none⟩ = some (.string r0) := by
  obtain ⟨b', off', c', hv, hc, hr⟩ := h
  simp at hv
  have e1 := hv.2.2.2.2.1
  have h1 := hs.h1
  refine ⟨(txt s.b).extract (0 * s.w) ((0 + 1) * s.w), ?_, ?_⟩
  · rw [ByteArray.size_extract, txt_size, hs.len]
    have := hs.w1
    have h6 : s.w ≤ s.w * s.h := Nat.le_mul_of_pos_right _ h1
    omega
  · have h5 := hr.cell 0 (by rw [rowsL_length]; omega)
    rw [rowsL_get _ _ _ _ (by omega)] at h5
    rw [e1.1, e1.2]
    exact h5
def lookS (a b : Nat) (o : ByteArray) : Scr := putL (newS (1 + a % 80) (1 + b % 24)) o.data.toList
theorem lookS_ok (a b : Nat) (o : ByteArray) : (lookS a b o).Ok := putL_ok (newS_ok (by omega) (by omega) (by omega) (by omega)) _
theorem lookS_w (a b : Nat) (o : ByteArray) : (lookS a b o).w = 1 + a % 80 ∧ (lookS a b o).h = 1 + b % 24 := putL_w _ _
theorem lookS_plain (a b : Nat) (o : ByteArray) : Plain (lookS a b o).b := plain_putL (plain_rep _) _
set_option maxHeartbeats 8000000 in
set_option maxRecDepth 20000 in
theorem look_any (a b : Nat) (o : ByteArray) (w : World) (ha : a ≤ 255) (hb : b ≤ 255) (ho : o.size ≤ 10000) :
    Calls Try.prog 26 #[.agg #[.int .u8 a, .int .u8 b, .string o]] w fun e w' => ∃ b2 off c, e = .returned (.tuple #[VV (lookS a b o).w (lookS a b o).h (lookS a b o).x (lookS a b o).y (txt (lookS a b o).b), RV (lookS a b o).w (lookS a b o).h (lookS a b o).x (lookS a b o).y (.slice (some ⟨b2, off, none⟩) (lookS a b o).h c)]) ∧
      RScrAt w' (RV (lookS a b o).w (lookS a b o).h (lookS a b o).x (lookS a b o).y (.slice (some ⟨b2, off, none⟩) (lookS a b o).h c)) (lookS a b o) ∧ Below w.heap.size w w' := by
  have hok := lookS_ok a b o
  have hw := lookS_w a b o
  have hS : putL (newS (1 + a % 80) (1 + b % 24)) o.data.toList = lookS a b o := rfl
  obtain ⟨S, hSS⟩ : ∃ S, lookS a b o = S := ⟨_, rfl⟩
  rw [hSS] at hok hw hS ⊢
  obtain ⟨cw, hcw⟩ : ∃ k, 1 + a % 80 = k := ⟨_, rfl⟩
  obtain ⟨ch, hch⟩ : ∃ k, 1 + b % 24 = k := ⟨_, rfl⟩
  have w1 : 1 ≤ cw := by omega
  have w2 : cw ≤ 80 := by omega
  have h1 : 1 ≤ ch := by omega
  have h2 : ch ≤ 24 := by omega
  rw [hcw, hch] at hw hS
  have hok0 := newS_ok w1 w2 h1 h2
  have cN := fun W => new_any cw ch W w1 w2 h1 h2
  obtain ⟨N0, hN0⟩ : ∃ S, newS cw ch = S := ⟨_, rfl⟩
  have hN0w : N0.w = cw ∧ N0.h = ch ∧ N0.x = 0 ∧ N0.y = 0 := by rw [← hN0]; exact ⟨rfl, rfl, rfl, rfl⟩
  have cN : ∀ W, Calls Try.prog 12 #[.int .i64 cw, .int .i64 ch] W fun e w' => e = .returned (.tuple #[VV cw ch 0 0 (txt N0.b), .int .i64 0]) ∧ Below W.heap.size W w' := fun W => by
    have := new_any cw ch W w1 w2 h1 h2
    rw [← hN0]; exact this
  have cQ : ∀ W, Calls Try.prog 19 #[.int .i64 cw, .int .i64 ch] W fun e w' => ∃ v, e = .returned v ∧ RScrAt w' v N0 ∧ Below W.heap.size W w' := fun W => by
    rw [← hN0]; exact rnew_any cw ch W w1 w2 h1 h2
  rw [hN0] at hok0 hS
  have cP : ∀ W, Calls Try.prog 14 #[VV cw ch 0 0 (txt N0.b), .string o] W fun e w' => e = .returned (VV S.w S.h S.x S.y (txt S.b)) ∧ Below W.heap.size W w' := fun W => by
    have := put_vv N0 o W hok0 (by omega) S hS
    rw [hN0w.1, hN0w.2.1, hN0w.2.2.1, hN0w.2.2.2] at this
    exact this
  have cR : ∀ v W, RScrAt W v N0 → Calls Try.prog 18 #[v, .string o] W fun e w' => ∃ v, e = .returned v ∧ RScrAt w' v S ∧ Below W.heap.size W w' := fun v W h => by
    rw [← hS]; exact rput_any N0 v o W h hok0 (by omega)
  have CN := Lib.hid cN; have CQ := Lib.hid cQ; have CP := Lib.hid cP; have CR := Lib.hid cR
  obtain ⟨nt, hnt⟩ : ∃ x, txt N0.b = x := ⟨_, rfl⟩
  obtain ⟨st, hst⟩ : ∃ x, txt S.b = x := ⟨_, rfl⟩
  rw [hnt] at CN CP
  rw [hst] at CP ⊢
  have r1 : (a : Int).tmod 80 = ((a % 80 : Nat) : Int) := rfl
  have r2 : (b : Int).tmod 24 = ((b % 24 : Nat) : Int) := rfl
  obtain ⟨a', ha'⟩ : ∃ k, a % 80 = k := ⟨_, rfl⟩
  obtain ⟨b', hb'⟩ : ∃ k, b % 24 = k := ⟨_, rfl⟩
  rw [ha'] at r1 hcw; rw [hb'] at r2 hch
  have a255 : a' ≤ 79 := by omega
  have b255 : b' ≤ 23 := by omega
  have s1 : (1 : Int) + a' = cw := by omega
  have s2 : (1 : Int) + b' = ch := by omega
  obtain ⟨Sw, hSw⟩ : ∃ x, S.w = x := ⟨_, rfl⟩
  obtain ⟨Sh, hSh⟩ : ∃ x, S.h = x := ⟨_, rfl⟩
  obtain ⟨Sx, hSx⟩ : ∃ x, S.x = x := ⟨_, rfl⟩
  obtain ⟨Sy, hSy⟩ : ∃ x, S.y = x := ⟨_, rfl⟩
  have hRF : ∀ W v, RScrAt W v S → ∃ b2 off c, v = RV Sw Sh Sx Sy (.slice (some ⟨b2, off, none⟩) Sh c) := fun W v h => by
    obtain ⟨b2, off, c, h5, _, _⟩ := h
    rw [hSw, hSh, hSx, hSy] at h5
    exact ⟨b2, off, c, h5⟩
  rw [hSw, hSh, hSx, hSy] at CP ⊢
  have HRF := Lib.hid hRF
  have HOK := Lib.hid hok
  clear cN cQ cP cR hok hw hS hSS hok0 hN0 hN0w hcw hch ha' hb' hnt hst hSw hSh hSx hSy hRF
  go_enter Try.func26, Try.ntmps26
  go_upto_region 1 with fail
  refine wp_absQ (fun W => Below w.heap.size w W ∧ Blk W w.heap.size #[.int .u8 a, .int .u8 b, .string o] 51 ∧ Blk W (w.heap.size + 1) zs24 24 ∧ Blk W (w.heap.size + 2) z41 41) ⟨by (repeat (first | (with_reducible assumption) | (with_reducible exact Below.refl _ _) | with_reducible apply bl_drewN | with_reducible apply Below.drew | (with_reducible apply bl_alloc; focus (first | (simp; done) | (simp; omega) | omega)) | (with_reducible apply bl_set; focus (first | (simp; done) | (simp; omega) | omega)))), by (repeat (first | (with_reducible assumption) | (with_reducible apply Blk.new'; (first | (with_reducible rfl) | (simp; done))) | with_reducible apply Blk.alloc | with_reducible apply Blk.set | ((with_reducible apply Blk.set_ne); focus (first | (simp; done) | (simp; omega))) | with_reducible apply Blk.drewN | with_reducible apply Blk.drew)), by (repeat (first | (with_reducible assumption) | (with_reducible apply Blk.new'; (first | (with_reducible rfl) | (simp; done))) | with_reducible apply Blk.alloc | with_reducible apply Blk.set | ((with_reducible apply Blk.set_ne); focus (first | (simp; done) | (simp; omega))) | with_reducible apply Blk.drewN | with_reducible apply Blk.drew)), by (repeat (first | (with_reducible assumption) | (with_reducible apply Blk.new'; (first | (with_reducible rfl) | (simp; done))) | with_reducible apply Blk.alloc | with_reducible apply Blk.set | ((with_reducible apply Blk.set_ne); focus (first | (simp; done) | (simp; omega))) | with_reducible apply Blk.drewN | with_reducible apply Blk.drew))⟩ (fun W1 h5 => ?_)
  obtain ⟨HB1, B1, Q1, R1⟩ := h5
  have HB1s := HB1.size
  refine wp_region_gr (by kernel_rfl) (by kernel_rfl) ?_
  repeat (first
    | go_big_quiet_skip
    | ((refine BigFrame.wpQuiet_want rfl (fun K hK => quiet_mk ?_)); apply Exists.intro; refine ⟨fun wq hq => ?_, hK _ ?_⟩
       · have f0 := hq.blk B1; go_simp; (try simp only [↓IntWalk.iteOmega]); (try go_bits)
         first | done | rfl | exact ⟨rfl, rfl⟩ | exact ⟨trivial, rfl⟩
       clear hK K; (try simp only [Act.put, List.setIfInBounds_toArray, List.set_cons_zero, List.set_cons_succ])))
  refine wpQuiet_nil ?_
  intro W2 hw2
  have HB2 := Below.thn HB1 hw2.out HB1s
  have B2 := B1.below hw2.out
  have Q2 := Q1.below hw2.out
  have R2 := R1.below hw2.out
  have HB2s := HB2.size
  clear hw2 HB1 B1 Q1 R1 HB1s
  go_wp2_with fail
  refine (CN.out _).mono ?_
  rintro e W3 ⟨rfl, hb⟩
  have HB3 := Below.thn HB2 hb HB2s
  have B3 := B2.below hb
  have Q3 := Q2.below hb
  have R3 := R2.below hb
  have l3 := R3.lt
  clear hb HB2 B2 Q2 R2 HB2s
  go_upto_region 3 with fail
  refine wp_absQ (fun W => Below w.heap.size w W ∧ Blk W w.heap.size #[.int .u8 a, .int .u8 b, .string o] 51 ∧ Blk W (w.heap.size + 1) zs24 24 ∧ Blk W (w.heap.size + 2) z41 41 ∧ Blk W W3.heap.size #[.int .i64 cw, .int .i64 ch, .int .i64 0, .int .i64 0, .string nt] 24) ⟨by (repeat (first | (with_reducible assumption) | (with_reducible exact Below.refl _ _) | with_reducible apply bl_drewN | with_reducible apply Below.drew | (with_reducible apply bl_alloc; focus (first | (simp; done) | (simp; omega) | omega)) | (with_reducible apply bl_set; focus (first | (simp; done) | (simp; omega) | omega)))), by (repeat (first | (with_reducible assumption) | (with_reducible apply Blk.new'; (first | (with_reducible rfl) | (simp; done))) | with_reducible apply Blk.alloc | with_reducible apply Blk.set | ((with_reducible apply Blk.set_ne); focus (first | (simp; done) | (simp; omega))) | with_reducible apply Blk.drewN | with_reducible apply Blk.drew)), by (repeat (first | (with_reducible assumption) | (with_reducible apply Blk.new'; (first | (with_reducible rfl) | (simp; done))) | with_reducible apply Blk.alloc | with_reducible apply Blk.set | ((with_reducible apply Blk.set_ne); focus (first | (simp; done) | (simp; omega))) | with_reducible apply Blk.drewN | with_reducible apply Blk.drew)), by (repeat (first | (with_reducible assumption) | (with_reducible apply Blk.new'; (first | (with_reducible rfl) | (simp; done))) | with_reducible apply Blk.alloc | with_reducible apply Blk.set | ((with_reducible apply Blk.set_ne); focus (first | (simp; done) | (simp; omega))) | with_reducible apply Blk.drewN | with_reducible apply Blk.drew)), by (repeat (first | (with_reducible assumption) | (with_reducible apply Blk.new'; (first | (with_reducible rfl) | (simp; done))) | with_reducible apply Blk.alloc | with_reducible apply Blk.set | ((with_reducible apply Blk.set_ne); focus (first | (simp; done) | (simp; omega))) | with_reducible apply Blk.drewN | with_reducible apply Blk.drew))⟩ (fun W4 h5 => ?_)
  obtain ⟨HB4, B4, Q4, R4, S4⟩ := h5
  have HB4s := HB4.size
  clear HB3 B3 Q3 R3
  refine wp_region_typed 10 (fun k => match k with | 9 => [6] | _ => []) (fun k => match k with  | _ => false) (fun k => match k with | 3 => some ⟨(Unit), (()), (fun _ => VV Sw Sh Sx Sy st), (fun _ _ => True), (fun _ _ _ h _ => h)⟩ | 6 => some ⟨(Value), (.bool true), (fun v => v), (fun v w => RScrAt w v N0), (fun v w w' h hb => h.below hb)⟩ | 9 => some ⟨(Nat × Nat × Nat), ((0, 0, 0)), (fun x => RV Sw Sh Sx Sy (.slice (some ⟨x.1, x.2.1, none⟩) Sh x.2.2)), (fun x w => RScrAt w (RV Sw Sh Sx Sy (.slice (some ⟨x.1, x.2.1, none⟩) Sh x.2.2)) S), (fun x w w' h hb => h.below hb)⟩ | _ => none) (by kernel_rfl) (by kernel_rfl) (by intro d0 v0 c0 a0 w0 h0; cases d0 <;> exact h0) ?_
  rw [show List.range 10 = [0, 1, 2, 3, 4, 5, 6, 7, 8, 9] from rfl]
  first
    | (refine ty_skip rfl rfl ?_; (try simp only [Act.put, List.setIfInBounds_toArray, List.set_cons_zero, List.set_cons_succ]))
    | (refine ty_pure rfl rfl rfl rfl ?_; apply Exists.intro; refine ⟨fun wq hq hk => ?_, ?_⟩
       · have f0 := hq.blk B4; have f1 := hq.blk S4; simp only [pureAt]; go_simp; (try simp only [↓IntWalk.iteOmega]); (try go_bits); (try simp only [pureUpon]); (first | done | exact ⟨rfl, rfl⟩ | exact ⟨trivial, rfl⟩ | rfl)
       (try simp only [Act.put, List.setIfInBounds_toArray, List.set_cons_zero, List.set_cons_succ]))
  first
    | (refine ty_skip rfl rfl ?_; (try simp only [Act.put, List.setIfInBounds_toArray, List.set_cons_zero, List.set_cons_succ]))
    | (refine ty_pure rfl rfl rfl rfl ?_; apply Exists.intro; refine ⟨fun wq hq hk => ?_, ?_⟩
       · have f0 := hq.blk B4; have f1 := hq.blk S4; simp only [pureAt]; go_simp; (try simp only [↓IntWalk.iteOmega]); (try go_bits); (try simp only [pureUpon]); (first | done | exact ⟨rfl, rfl⟩ | exact ⟨trivial, rfl⟩ | rfl)
       (try simp only [Act.put, List.setIfInBounds_toArray, List.set_cons_zero, List.set_cons_succ]))
  first
    | (refine ty_skip rfl rfl ?_; (try simp only [Act.put, List.setIfInBounds_toArray, List.set_cons_zero, List.set_cons_succ]))
    | (refine ty_pure rfl rfl rfl rfl ?_; apply Exists.intro; refine ⟨fun wq hq hk => ?_, ?_⟩
       · have f0 := hq.blk B4; have f1 := hq.blk S4; simp only [pureAt]; go_simp; (try simp only [↓IntWalk.iteOmega]); (try go_bits); (try simp only [pureUpon]); (first | done | exact ⟨rfl, rfl⟩ | exact ⟨trivial, rfl⟩ | rfl)
       (try simp only [Act.put, List.setIfInBounds_toArray, List.set_cons_zero, List.set_cons_succ]))
  refine ty_rel rfl rfl _ rfl rfl (fun wq hq hk => ?_) ?_
  · have f0 := hq.blk B4; have f1 := hq.blk S4; simp only [relAt]; go_simp; (try simp only [relUpon]); (go_at_call 14; refine (CP.out _).mono ?_; rintro e w9 ⟨rfl, hb9⟩; exact ⟨_, rfl, .mk hb9 () rfl trivial⟩)
  rintro ⟨⟩
  (try simp only [Act.put, List.setIfInBounds_toArray, List.set_cons_zero, List.set_cons_succ])
  first
    | (refine ty_skip rfl rfl ?_; (try simp only [Act.put, List.setIfInBounds_toArray, List.set_cons_zero, List.set_cons_succ]))
    | (refine ty_pure rfl rfl rfl rfl ?_; apply Exists.intro; refine ⟨fun wq hq hk => ?_, ?_⟩
       · have f0 := hq.blk B4; have f1 := hq.blk S4; simp only [pureAt]; go_simp; (try simp only [↓IntWalk.iteOmega]); (try go_bits); (try simp only [pureUpon]); (first | done | exact ⟨rfl, rfl⟩ | exact ⟨trivial, rfl⟩ | rfl)
       (try simp only [Act.put, List.setIfInBounds_toArray, List.set_cons_zero, List.set_cons_succ]))
  first
    | (refine ty_skip rfl rfl ?_; (try simp only [Act.put, List.setIfInBounds_toArray, List.set_cons_zero, List.set_cons_succ]))
    | (refine ty_pure rfl rfl rfl rfl ?_; apply Exists.intro; refine ⟨fun wq hq hk => ?_, ?_⟩
       · have f0 := hq.blk B4; have f1 := hq.blk S4; simp only [pureAt]; go_simp; (try simp only [↓IntWalk.iteOmega]); (try go_bits); (try simp only [pureUpon]); (first | done | exact ⟨rfl, rfl⟩ | exact ⟨trivial, rfl⟩ | rfl)
       (try simp only [Act.put, List.setIfInBounds_toArray, List.set_cons_zero, List.set_cons_succ]))
  refine ty_rel rfl rfl _ rfl rfl (fun wq hq hk => ?_) ?_
  · have f0 := hq.blk B4; have f1 := hq.blk S4; simp only [relAt]; go_simp; (try simp only [relUpon]); (go_at_call 19; refine (CQ.out _).mono ?_; rintro e w9 ⟨v9, rfl, R9, hb9⟩; exact ⟨_, rfl, .mk hb9 v9 rfl R9⟩)
  rintro (v6 : Value)
  (try simp only [Act.put, List.setIfInBounds_toArray, List.set_cons_zero, List.set_cons_succ])
  first
    | (refine ty_skip rfl rfl ?_; (try simp only [Act.put, List.setIfInBounds_toArray, List.set_cons_zero, List.set_cons_succ]))
    | (refine ty_pure rfl rfl rfl rfl ?_; apply Exists.intro; refine ⟨fun wq hq hk => ?_, ?_⟩
       · have f0 := hq.blk B4; have f1 := hq.blk S4; simp only [pureAt]; go_simp; (try simp only [↓IntWalk.iteOmega]); (try go_bits); (try simp only [pureUpon]); (first | done | exact ⟨rfl, rfl⟩ | exact ⟨trivial, rfl⟩ | rfl)
       (try simp only [Act.put, List.setIfInBounds_toArray, List.set_cons_zero, List.set_cons_succ]))
  first
    | (refine ty_skip rfl rfl ?_; (try simp only [Act.put, List.setIfInBounds_toArray, List.set_cons_zero, List.set_cons_succ]))
    | (refine ty_pure rfl rfl rfl rfl ?_; apply Exists.intro; refine ⟨fun wq hq hk => ?_, ?_⟩
       · have f0 := hq.blk B4; have f1 := hq.blk S4; simp only [pureAt]; go_simp; (try simp only [↓IntWalk.iteOmega]); (try go_bits); (try simp only [pureUpon]); (first | done | exact ⟨rfl, rfl⟩ | exact ⟨trivial, rfl⟩ | rfl)
       (try simp only [Act.put, List.setIfInBounds_toArray, List.set_cons_zero, List.set_cons_succ]))
  refine ty_rel rfl rfl _ rfl rfl (fun wq hq hk => ?_) ?_
  · have f0 := hq.blk B4; have f1 := hq.blk S4; have hr := hk _ (.head _) rfl; simp only [relAt]; go_simp; (try simp only [relUpon]); (go_at_call 18; refine (CR.out _ _ hr).mono ?_; rintro e w9 ⟨v9, rfl, R9, hb9⟩; obtain ⟨b2, off, c, h9⟩ := HRF.out _ _ R9; subst h9; exact ⟨_, rfl, .mk hb9 (b2, off, c) rfl R9⟩)
  rintro ⟨b9, o9, c9⟩
  (try simp only [Act.put, List.setIfInBounds_toArray, List.set_cons_zero, List.set_cons_succ])
  refine ty_nil ?_
  simp only [List.drop_succ_cons, List.drop_zero]
  intro W8 hw8 hΓ
  have R9 : RScrAt W8 (RV Sw Sh Sx Sy (.slice (some ⟨b9, o9, none⟩) Sh c9)) S := hΓ _ (.head _)
  have HB8 := Below.thn HB4 hw8.out HB4s
  have Q8 := Q4.below hw8.out
  have R8 := R4.below hw8.out
  clear hΓ hw8 HB4 B4 Q4 R4 S4 HB4s
  obtain ⟨r0, hr0, hc0⟩ := R9.first HOK.out
  have n1 : b9 ≠ w.heap.size + 1 := fun e => by
    rw [e, Q8.cell] at hc0
    match o9, hc0 with
    | 0, h => simp at h
    | 1, h => simp at h
    | 2, h => simp at h
    | 3, h => simp at h
    | 4, h => simp at h; rw [← h] at hr0; exact absurd hr0 (by decide)
    | _ + 5, h => simp at h
  have n2 : b9 ≠ w.heap.size + 2 := fun e => by
    rw [e, R8.cell] at hc0
    exact no_text5 (by simp) (by simp) (by simp) (by simp) (by simp) _ _ hc0
  refine wpList_put rfl 24 _ _ rfl (w.heap.size+1) _ _ 24 rfl rfl Q8 (by kernel_rfl) rfl (by first | rfl | decide | simp [Value.oneCell']) (fun W9 hp9 B9 => ?_)
  (try simp only [Act.put])
  refine wpList_put rfl 41 _ _ rfl (w.heap.size+2) _ _ 41 rfl rfl (hp9.blk (by omega) R8) (by kernel_rfl) rfl (by first | rfl | decide | simp [Value.oneCell']) (fun W10 hp10 B10 => ?_)
  (try simp only [Act.put])
  have R10 := (R9.putv hp9 n1).putv hp10 n2
  have HB10 := hp10.below (by omega) (hp9.below (by omega) HB8)
  have B9' := hp10.blk (by omega) B9
  have B9c := B9'.cell; have B9l := B9'.lt; have B10c := B10.cell; have B10l := B10.lt
  go_wp2_with fail
  refine bodyPost_ret (v := .tuple #[VV Sw Sh Sx Sy st, RV Sw Sh Sx Sy (.slice (some ⟨b9, o9, none⟩) Sh c9)]) ?_ rfl ⟨b9, o9, c9, rfl, R10, HB10⟩
  first | (simp [results, Try.results26, go_sem, B9c, B10c]; done) | simp [results, Try.results26, go_sem, B9c, B10c, B9l, B10l]
end Go.Proofs.Ytgdmeaoghhkknaa
