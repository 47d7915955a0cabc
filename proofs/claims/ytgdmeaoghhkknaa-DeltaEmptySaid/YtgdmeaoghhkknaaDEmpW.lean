/- DeltaEmpty: the walk. -/
import Derived.Test.YtgdmeaoghhkknaaDel8
namespace Go.Proofs.Ytgdmeaoghhkknaa
open Go.RowKit

set_option maxHeartbeats 4000000 in
set_option maxRecDepth 20000 in
theorem dempty_long (a b c d : Int) (o q : ByteArray) (w : World) (h : 1000 < o.size ∨ 1000 < q.size) :
    Calls Try.prog 8 #[.agg #[.int .u8 a, .int .u8 b, .string o], .agg #[.int .u8 c, .int .u8 d, .string q]] w fun e w' => e = .returned (.bool true) ∧ Below w.heap.size w w' := by
  have hm : (1000 : Int) < max (o.size : Int) q.size := by omega
  go_enter Try.func8, Try.ntmps8
  go_wp2_with fail
  refine (awake12 _).mono ?_
  rintro e w1 ⟨rfl, hb⟩
  have HB1 : Below w.heap.size w w1 := Below.thn (by (repeat (first | (with_reducible assumption) | (with_reducible exact Below.refl _ _) | with_reducible apply bl_drewN | with_reducible apply Below.drew | (with_reducible apply bl_alloc; focus (first | (simp; done) | (simp; omega) | omega)) | (with_reducible apply bl_set; focus (first | (simp; done) | (simp; omega) | omega))))) hb
  have B1 := Blk.below (b := w.heap.size) (t := 51) (by (repeat (first | (with_reducible assumption) | (with_reducible apply Blk.new'; (first | (with_reducible rfl) | (simp; done))) | with_reducible apply Blk.alloc | with_reducible apply Blk.set | ((with_reducible apply Blk.set_ne); focus (first | (simp; done) | (simp; omega))) | with_reducible apply Blk.drewN | with_reducible apply Blk.drew))) hb
  have B2 := Blk.below (b := w.heap.size + 1) (t := 51) (by (repeat (first | (with_reducible assumption) | (with_reducible apply Blk.new'; (first | (with_reducible rfl) | (simp; done))) | with_reducible apply Blk.alloc | with_reducible apply Blk.set | ((with_reducible apply Blk.set_ne); focus (first | (simp; done) | (simp; omega))) | with_reducible apply Blk.drewN | with_reducible apply Blk.drew))) hb
  have B1c := B1.cell; have B1l := B1.lt; have B2c := B2.cell; have B2l := B2.lt
  clear hb h
  go_wp2_with fail
  go_ret
  exact ⟨rfl, HB1⟩
set_option maxHeartbeats 16000000 in
set_option maxRecDepth 20000 in
theorem dempty_walk (a b c d : Nat) (o q : ByteArray) (w : World) (ho : o.size ≤ 1000) (hq : q.size ≤ 1000) (ha : a ≤ 255) (hb' : b ≤ 255) :
    Calls Try.prog 8 #[.agg #[.int .u8 a, .int .u8 b, .string o], .agg #[.int .u8 c, .int .u8 d, .string q]] w fun e w' => e = .returned (.bool true) ∧ Below w.heap.size w w' := by
  have hm : ¬ (1000 : Int) < max (o.size : Int) q.size := by omega
  have L1 := Lib.hid (fun W => look_any a b o W ha hb' (by omega))
  have L2 := Lib.hid (fun W => look_any a b q W ha hb' (by omega))
  have hsok := lookS_ok a b o
  have htok := lookS_ok a b q
  have hspl := lookS_plain a b o
  have hd1 := lookS_w a b o
  have hd2 := lookS_w a b q
  obtain ⟨S, hS⟩ : ∃ x, lookS a b o = x := ⟨_, rfl⟩
  obtain ⟨T, hT⟩ : ∃ x, lookS a b q = x := ⟨_, rfl⟩
  rw [hS] at L1 hsok hspl hd1
  rw [hT] at L2 htok hd2
  have hw : T.w = S.w := by rw [hd1.1, hd2.1]
  have hh : T.h = S.h := by rw [hd1.2, hd2.2]
  clear hS hT hd1 hd2
  have hlen := ofL_len S T hsok htok hw hh
  have hlen2 := ofL_len T S htok hsok hw.symm hh.symm
  have hn := wh_small hsok.w2 hsok.h2
  have hcl := cnt_le S.b T.b
  have hcl2 := cnt_le T.b S.b
  rw [hsok.len] at hcl
  rw [htok.len, hw, hh] at hcl2
  have hsl := hsok.len; have htl := htok.len
  rw [hw, hh] at htl
  have cO1 := fun W => of_any S T W hsok htok
  have cO2 := fun W => of_any T S W htok hsok
  have hdo := do_of T S htok hsok hspl
  have cD := fun W => do_any T ⟨(ofL T S).toArray⟩ W htok (by show (ofL T S).length ≤ 10000; omega)
  rw [show (⟨(ofL T S).toArray⟩ : ByteArray).data.toList = ofL T S from rfl, hdo] at cD
  have cE := fun W => empty_any ⟨(ofL S T).toArray⟩ W
  have hhd : (ofL S T).head? = some 100 := by unfold ofL; rw [if_neg (by omega)]; rfl
  have hEq : decide ((⟨(ofL S T).toArray⟩ : ByteArray).size = 3 ∧ (⟨(ofL S T).toArray⟩ : ByteArray).data.toList.head? = some 100) = decide (cnt S.b T.b = 0) := by
    refine decide_eq_decide.2 ?_
    show (ofL S T).length = 3 ∧ (ofL S T).head? = some 100 ↔ _
    constructor
    · rintro ⟨h5, _⟩; omega
    · intro h5; exact ⟨by omega, hhd⟩
  rw [hEq] at cE
  have cE2 : ∀ W, Calls Try.prog 29 #[.string ⟨#[]⟩] W fun e w' => e = .returned (.bool false) ∧ Below W.heap.size W w' := fun W => by
    have h5 := empty_any ⟨#[]⟩ W
    rw [decide_eq_false (by rintro ⟨h6, _⟩; exact absurd h6 (by decide))] at h5
    exact h5
  have cE3 : ∀ W, Calls Try.prog 29 #[.string ⟨#[102, 120, 121]⟩] W fun e w' => e = .returned (.bool false) ∧ Below W.heap.size W w' := fun W => by
    have h5 := empty_any ⟨#[102, 120, 121]⟩ W
    rw [decide_eq_false (by rintro ⟨_, h6⟩; exact absurd (Option.some.inj h6) (by decide))] at h5
    exact h5
  have hdsz : (⟨(ofL S T).toArray⟩ : ByteArray).size = (ofL S T).length := rfl
  obtain ⟨dS, hdS⟩ : ∃ x : ByteArray, ⟨(ofL S T).toArray⟩ = x := ⟨_, rfl⟩
  obtain ⟨dT, hdT⟩ : ∃ x : ByteArray, ⟨(ofL T S).toArray⟩ = x := ⟨_, rfl⟩
  rw [hdS] at cO1 cE hdsz
  rw [hdT] at cO2 cD
  obtain ⟨D, hD⟩ : ∃ x, cnt S.b T.b = x := ⟨_, rfl⟩
  rw [hD] at cE hlen hcl
  have g1 : (3 : Int) + D ≤ dS.size := by omega
  have g2 : (dS.size : Int) ≤ 3 + 4 * D := by omega
  have hD2 : D ≤ 1920 := by omega
  unfold pv at cD
  simp only [hw, hh] at cO1 cO2 cD
  rw [hw, hh] at L2
  have HSL := Lib.hid hsl; have HTL := Lib.hid htl
  have HD := Lib.hid hD
  obtain ⟨Sw, hSw⟩ : ∃ x, S.w = x := ⟨_, rfl⟩
  obtain ⟨Sh, hSh⟩ : ∃ x, S.h = x := ⟨_, rfl⟩
  obtain ⟨Sx, hSx⟩ : ∃ x, S.x = x := ⟨_, rfl⟩
  obtain ⟨Sy, hSy⟩ : ∃ x, S.y = x := ⟨_, rfl⟩
  obtain ⟨Tx, hTx⟩ : ∃ x, T.x = x := ⟨_, rfl⟩
  obtain ⟨Ty, hTy⟩ : ∃ x, T.y = x := ⟨_, rfl⟩
  obtain ⟨st, hst⟩ : ∃ x, txt S.b = x := ⟨_, rfl⟩
  obtain ⟨tt, htt⟩ : ∃ x, txt T.b = x := ⟨_, rfl⟩
  rw [hSw, hSh] at hn
  obtain ⟨n, hnn⟩ : ∃ x, Sw * Sh = x := ⟨_, rfl⟩
  have hstl : st.data.toList = S.b := by rw [← hst]; simp [txt]
  have httl : tt.data.toList = T.b := by rw [← htt]; simp [txt]
  have hsts : st.size = n := by rw [← hst, txt_size, HSL.out, hSw, hSh, hnn]
  have htts : tt.size = n := by rw [← htt, txt_size, HTL.out, hSw, hSh, hnn]
  simp only [hSw, hSh, hSx, hSy, hTx, hTy, hst, htt] at cO1 cO2 cD
  simp only [hSw, hSh, hSx, hSy, hst] at L1
  simp only [hSw, hSh, hTx, hTy, htt] at L2
  have CO1 := Lib.hid cO1; have CO2 := Lib.hid cO2; have CD := Lib.hid cD; have CE := Lib.hid cE; have CE2 := Lib.hid cE2; have CE3 := Lib.hid cE3
  have HST := Lib.hid hstl; have HTT := Lib.hid httl; have HSZ := Lib.hid (And.intro hsts htts)
  rw [hnn] at hn
  clear cO1 cO2 cD cE cE2 cE3 hstl httl hsts htts hdo hhd hEq hdsz hdS hdT hD hlen hlen2 hcl hcl2 hsl htl hw hh hsok htok hspl hSw hSh hSx hSy hTx hTy hst htt hnn
  go_enter Try.func8, Try.ntmps8
  go_wp2_with fail
  refine (awake12 _).mono ?_
  rintro e W1 ⟨rfl, hb⟩
  have HB1 : Below w.heap.size w W1 := Below.thn (by (repeat (first | (with_reducible assumption) | (with_reducible exact Below.refl _ _) | with_reducible apply bl_drewN | with_reducible apply Below.drew | (with_reducible apply bl_alloc; focus (first | (simp; done) | (simp; omega) | omega)) | (with_reducible apply bl_set; focus (first | (simp; done) | (simp; omega) | omega))))) hb
  have A1 := Blk.below (b := w.heap.size) (t := 51) (by (repeat (first | (with_reducible assumption) | (with_reducible apply Blk.new'; (first | (with_reducible rfl) | (simp; done))) | with_reducible apply Blk.alloc | with_reducible apply Blk.set | ((with_reducible apply Blk.set_ne); focus (first | (simp; done) | (simp; omega))) | with_reducible apply Blk.drewN | with_reducible apply Blk.drew))) hb
  have B1 := Blk.below (b := w.heap.size + 1) (t := 51) (by (repeat (first | (with_reducible assumption) | (with_reducible apply Blk.new'; (first | (with_reducible rfl) | (simp; done))) | with_reducible apply Blk.alloc | with_reducible apply Blk.set | ((with_reducible apply Blk.set_ne); focus (first | (simp; done) | (simp; omega))) | with_reducible apply Blk.drewN | with_reducible apply Blk.drew))) hb
  have HB1s := HB1.size
  have A1c := A1.cell; have A1l := A1.lt; have B1c := B1.cell; have B1l := B1.lt; have B1f := B1.frozen
  clear hb
  go_wp2_with fail
  go_region
  have HB2 : Below w.heap.size w ((W1.setCell ⟨w.heap.size + 1, 0, none⟩ (.int .u8 a)).setCell ⟨w.heap.size + 1, 1, none⟩ (.int .u8 b)).drew := by (repeat (first | (with_reducible assumption) | (with_reducible exact Below.refl _ _) | with_reducible apply bl_drewN | with_reducible apply Below.drew | (with_reducible apply bl_alloc; focus (first | (simp; done) | (simp; omega) | omega)) | (with_reducible apply bl_set; focus (first | (simp; done) | (simp; omega) | omega))))
  have A2 : Blk ((W1.setCell ⟨w.heap.size + 1, 0, none⟩ (.int .u8 a)).setCell ⟨w.heap.size + 1, 1, none⟩ (.int .u8 b)).drew w.heap.size #[.int .u8 a, .int .u8 b, .string o] 51 := by (repeat (first | (with_reducible assumption) | (with_reducible apply Blk.new'; (first | (with_reducible rfl) | (simp; done))) | with_reducible apply Blk.alloc | with_reducible apply Blk.set | ((with_reducible apply Blk.set_ne); focus (first | (simp; done) | (simp; omega))) | with_reducible apply Blk.drewN | with_reducible apply Blk.drew))
  have B2 : Blk ((W1.setCell ⟨w.heap.size + 1, 0, none⟩ (.int .u8 a)).setCell ⟨w.heap.size + 1, 1, none⟩ (.int .u8 b)).drew (w.heap.size + 1) #[.int .u8 a, .int .u8 b, .string q] 51 := ((B1.set).set).drew.conv rfl
  generalize ((W1.setCell ⟨w.heap.size + 1, 0, none⟩ (.int .u8 a)).setCell ⟨w.heap.size + 1, 1, none⟩ (.int .u8 b)).drew = W2 at *
  have HB2s := HB2.size
  clear HB1 A1 B1 HB1s A1c A1l B1c B1l B1f
  have A2c := A2.cell; have A2l := A2.lt
  go_wp2_with fail
  refine (L1.out _).mono ?_
  rintro e W3 ⟨b3, o3, c3, rfl, R3, hb⟩
  have HB3 := Below.thn HB2 hb HB2s
  have B3 := B2.below hb
  have HB3s := HB3.size
  have B3l := B3.lt
  clear hb HB2 A2 B2 HB2s A2c A2l R3
  go_upto_region 7 with fail
  refine wp_absQ (fun W => Below w.heap.size w W ∧ Blk W (w.heap.size + 1) #[.int .u8 a, .int .u8 b, .string q] 51 ∧ Blk W W3.heap.size #[.int .i64 Sw, .int .i64 Sh, .int .i64 Sx, .int .i64 Sy, .string st] 24) ⟨by (repeat (first | (with_reducible assumption) | (with_reducible exact Below.refl _ _) | with_reducible apply bl_drewN | with_reducible apply Below.drew | (with_reducible apply bl_alloc; focus (first | (simp; done) | (simp; omega) | omega)) | (with_reducible apply bl_set; focus (first | (simp; done) | (simp; omega) | omega)))), by (repeat (first | (with_reducible assumption) | (with_reducible apply Blk.new'; (first | (with_reducible rfl) | (simp; done))) | with_reducible apply Blk.alloc | with_reducible apply Blk.set | ((with_reducible apply Blk.set_ne); focus (first | (simp; done) | (simp; omega))) | with_reducible apply Blk.drewN | with_reducible apply Blk.drew)), by (repeat (first | (with_reducible assumption) | (with_reducible apply Blk.new'; (first | (with_reducible rfl) | (simp; done))) | with_reducible apply Blk.alloc | with_reducible apply Blk.set | ((with_reducible apply Blk.set_ne); focus (first | (simp; done) | (simp; omega))) | with_reducible apply Blk.drewN | with_reducible apply Blk.drew))⟩ (fun W4 h5 => ?_)
  obtain ⟨HB4, B4, S4⟩ := h5
  have HB4s := HB4.size
  clear HB3 HB3s B3 B3l
  have B4c := B4.cell; have B4l := B4.lt
  go_wp2_with fail
  refine (L2.out _).mono ?_
  rintro e W5 ⟨b5, o5, c5, rfl, R5, hb⟩
  have HB5 := Below.thn HB4 hb HB4s
  have S5 := S4.below hb
  have HB5s := HB5.size
  have S5l := S5.lt
  clear hb HB4 B4 S4 HB4s B4c B4l R5
  go_upto_region 8 with fail
  refine wp_absQ (fun W => Below w.heap.size w W ∧ Blk W W3.heap.size #[.int .i64 Sw, .int .i64 Sh, .int .i64 Sx, .int .i64 Sy, .string st] 24 ∧ Blk W W5.heap.size #[.int .i64 Sw, .int .i64 Sh, .int .i64 Tx, .int .i64 Ty, .string tt] 24) ⟨by (repeat (first | (with_reducible assumption) | (with_reducible exact Below.refl _ _) | with_reducible apply bl_drewN | with_reducible apply Below.drew | (with_reducible apply bl_alloc; focus (first | (simp; done) | (simp; omega) | omega)) | (with_reducible apply bl_set; focus (first | (simp; done) | (simp; omega) | omega)))), by (repeat (first | (with_reducible assumption) | (with_reducible apply Blk.new'; (first | (with_reducible rfl) | (simp; done))) | with_reducible apply Blk.alloc | with_reducible apply Blk.set | ((with_reducible apply Blk.set_ne); focus (first | (simp; done) | (simp; omega))) | with_reducible apply Blk.drewN | with_reducible apply Blk.drew)), by (repeat (first | (with_reducible assumption) | (with_reducible apply Blk.new'; (first | (with_reducible rfl) | (simp; done))) | with_reducible apply Blk.alloc | with_reducible apply Blk.set | ((with_reducible apply Blk.set_ne); focus (first | (simp; done) | (simp; omega))) | with_reducible apply Blk.drewN | with_reducible apply Blk.drew))⟩ (fun W6 h5 => ?_)
  obtain ⟨HB6, S6, T6⟩ := h5
  have HB6s := HB6.size
  obtain ⟨bs, hbs⟩ : ∃ x, W3.heap.size = x := ⟨_, rfl⟩
  obtain ⟨bt, hbt⟩ : ∃ x, W5.heap.size = x := ⟨_, rfl⟩
  rw [hbs] at S6 ⊢
  rw [hbt] at T6 ⊢
  clear hbs hbt HB5 HB5s S5 S5l
  have S6c := S6.cell; have S6l := S6.lt; have T6c := T6.cell; have T6l := T6.lt
  go_wp2_with fail
  refine (CO1.out _).mono ?_
  rintro e W7 ⟨rfl, hb⟩
  have HB7 := Below.thn HB6 hb HB6s
  have S7 := S6.below hb
  have T7 := T6.below hb
  have HB7s := HB7.size
  clear hb HB6 S6 T6 HB6s S6c S6l T6c T6l
  have S7c := S7.cell; have S7l := S7.lt
  go_wp2_with fail
  refine (cells_any _ _ _ _ _ _).mono ?_
  rintro e W8 ⟨rfl, hb⟩
  have HB8 := Below.thn HB7 hb HB7s
  have S8 := S7.below hb
  have T8 := T7.below hb
  have HB8s := HB8.size
  clear hb HB7 S7 T7 HB7s S7c S7l
  go_wp2_with fail
  rw [HSZ.out.1]
  go_loopg [10, 46] n (fun g t10 t46 wr => ∃ (i m : Nat), t10 = .int .i64 m ∧ t46 = .int .i64 i ∧ i + g = n ∧ m + cnt (st.data.toList.drop i) (tt.data.toList.drop i) = D ∧ Below w.heap.size w wr ∧ Blk wr bs #[.int .i64 Sw, .int .i64 Sh, .int .i64 Sx, .int .i64 Sy, .string st] 24 ∧ Blk wr bt #[.int .i64 Sw, .int .i64 Sh, .int .i64 Tx, .int .i64 Ty, .string tt] 24)
  case atStart => exact ⟨0, 0, rfl, rfl, by omega, by rw [HST.out, HTT.out, List.drop_zero, List.drop_zero, Nat.zero_add]; exact HD.out, HB8, S8, T8⟩
  case round =>
    clear HB8 S8 T8 HB8s
    obtain ⟨i, m, rfl, rfl, hi, hc, HB, S9, T9⟩ := hrel
    have HBs := HB.size
    have HI := Lib.hid hi
    cases gk with
    | zero =>
      have hi' : ¬ (i : Int) < n := by omega
      rw [cnt_nil _ _ _ (show st.data.toList.length ≤ i by show st.size ≤ i; rw [HSZ.out.1]; omega)] at hc
      obtain rfl : m = D := by omega
      clear hi hc
      go_wp2_with fail
      refine wp_region_typed 9 (fun k => match k with  | _ => []) (fun k => match k with | 7 => true | _ => false) (fun k => match k with | 3 => some ⟨(Unit), (()), (fun _ => .string dT), (fun _ _ => True), (fun _ _ _ h _ => h)⟩ | 4 => some ⟨(Unit), (()), (fun _ => .tuple #[VV Sw Sh Sx Sy st, .int .i64 0]), (fun _ _ => True), (fun _ _ _ h _ => h)⟩ | 8 => some ⟨(Nat), (0), (fun b => .pointer (some ⟨b, 0, none⟩)), (fun b w => wr.heap.size ≤ b ∧ Blk w b #[.int .i64 0, .int .i64 0, .int .i64 0, .int .i64 0, .string ⟨#[]⟩] 24), (fun b w w' h hb => ⟨h.1, h.2.below hb⟩)⟩ | _ => none) (by kernel_rfl) (by kernel_rfl) (by intro d0 v0 c0 a0 w0 h0; cases d0 <;> exact h0) ?_
      rw [show List.range 9 = [0, 1, 2, 3, 4, 5, 6, 7, 8] from rfl]
      first
        | (refine ty_skip rfl rfl ?_; (try simp only [Act.put, List.setIfInBounds_toArray, List.set_cons_zero, List.set_cons_succ]))
        | (refine ty_pure rfl rfl rfl rfl ?_; apply Exists.intro; refine ⟨fun wq hq hk => ?_, ?_⟩
           · have f0 := hq.blk S9; have f1 := hq.blk T9; simp only [pureAt]; go_simp; (try simp only [↓IntWalk.iteOmega]); (try go_bits); (try simp only [pureUpon]); (first | done | exact ⟨rfl, rfl⟩ | exact ⟨trivial, rfl⟩ | rfl)
           (try simp only [Act.put, List.setIfInBounds_toArray, List.set_cons_zero, List.set_cons_succ]))
      first
        | (refine ty_skip rfl rfl ?_; (try simp only [Act.put, List.setIfInBounds_toArray, List.set_cons_zero, List.set_cons_succ]))
        | (refine ty_pure rfl rfl rfl rfl ?_; apply Exists.intro; refine ⟨fun wq hq hk => ?_, ?_⟩
           · have f0 := hq.blk S9; have f1 := hq.blk T9; simp only [pureAt]; go_simp; (try simp only [↓IntWalk.iteOmega]); (try go_bits); (try simp only [pureUpon]); (first | done | exact ⟨rfl, rfl⟩ | exact ⟨trivial, rfl⟩ | rfl)
           (try simp only [Act.put, List.setIfInBounds_toArray, List.set_cons_zero, List.set_cons_succ]))
      first
        | (refine ty_skip rfl rfl ?_; (try simp only [Act.put, List.setIfInBounds_toArray, List.set_cons_zero, List.set_cons_succ]))
        | (refine ty_pure rfl rfl rfl rfl ?_; apply Exists.intro; refine ⟨fun wq hq hk => ?_, ?_⟩
           · have f0 := hq.blk S9; have f1 := hq.blk T9; simp only [pureAt]; go_simp; (try simp only [↓IntWalk.iteOmega]); (try go_bits); (try simp only [pureUpon]); (first | done | exact ⟨rfl, rfl⟩ | exact ⟨trivial, rfl⟩ | rfl)
           (try simp only [Act.put, List.setIfInBounds_toArray, List.set_cons_zero, List.set_cons_succ]))
      refine ty_rel rfl rfl _ rfl rfl (fun wq hq hk => ?_) ?_
      · have f0 := hq.blk S9; have f1 := hq.blk T9; simp only [relAt]; go_simp; (try simp only [relUpon]); (go_at_call 27; refine (CO2.out _).mono ?_; rintro e w9 ⟨rfl, hb9⟩; exact ⟨_, rfl, .mk hb9 () rfl trivial⟩)
      rintro ⟨⟩
      (try simp only [Act.put, List.setIfInBounds_toArray, List.set_cons_zero, List.set_cons_succ])
      refine ty_rel rfl rfl _ rfl rfl (fun wq hq hk => ?_) ?_
      · have f0 := hq.blk S9; have f1 := hq.blk T9; simp only [relAt]; go_simp; (try simp only [relUpon]); (go_at_call 28; refine (CD.out _).mono ?_; rintro e w9 ⟨rfl, hb9⟩; exact ⟨_, rfl, .mk hb9 () rfl trivial⟩)
      rintro ⟨⟩
      (try simp only [Act.put, List.setIfInBounds_toArray, List.set_cons_zero, List.set_cons_succ])
      first
        | (refine ty_skip rfl rfl ?_; (try simp only [Act.put, List.setIfInBounds_toArray, List.set_cons_zero, List.set_cons_succ]))
        | (refine ty_pure rfl rfl rfl rfl ?_; apply Exists.intro; refine ⟨fun wq hq hk => ?_, ?_⟩
           · have f0 := hq.blk S9; have f1 := hq.blk T9; simp only [pureAt]; go_simp; (try simp only [↓IntWalk.iteOmega]); (try go_bits); (try simp only [pureUpon]); (first | done | exact ⟨rfl, rfl⟩ | exact ⟨trivial, rfl⟩ | rfl)
           (try simp only [Act.put, List.setIfInBounds_toArray, List.set_cons_zero, List.set_cons_succ]))
      first
        | (refine ty_skip rfl rfl ?_; (try simp only [Act.put, List.setIfInBounds_toArray, List.set_cons_zero, List.set_cons_succ]))
        | (refine ty_pure rfl rfl rfl rfl ?_; apply Exists.intro; refine ⟨fun wq hq hk => ?_, ?_⟩
           · have f0 := hq.blk S9; have f1 := hq.blk T9; simp only [pureAt]; go_simp; (try simp only [↓IntWalk.iteOmega]); (try go_bits); (try simp only [pureUpon]); (first | done | exact ⟨rfl, rfl⟩ | exact ⟨trivial, rfl⟩ | rfl)
           (try simp only [Act.put, List.setIfInBounds_toArray, List.set_cons_zero, List.set_cons_succ]))
      first
        | (refine ty_skip rfl rfl ?_; (try simp only [Act.put, List.setIfInBounds_toArray, List.set_cons_zero, List.set_cons_succ]))
        | (refine ty_late rfl rfl rfl ?_; apply Exists.intro; refine ⟨fun wq => ?_, ?_⟩
           · simp only [pureAt]; go_simp; (try simp only [↓IntWalk.iteOmega]); (try go_bits); (try simp only [pureUpon]); (first | done | exact ⟨rfl, rfl⟩ | exact ⟨trivial, rfl⟩ | rfl)
           (try simp only [Act.put, List.setIfInBounds_toArray, List.set_cons_zero, List.set_cons_succ]))
      refine ty_rel rfl rfl _ rfl rfl (fun wq hq hk => ?_) ?_
      · have f0 := hq.blk S9; have f1 := hq.blk T9; simp only [relAt]; go_simp; (try simp only [relUpon]); exact .mk ((Below.refl _ _).alloc (Nat.le_refl _) _) wq.heap.size rfl ⟨hq.size, Blk.new wq _ _⟩
      rintro (b8 : Nat)
      (try simp only [Act.put, List.setIfInBounds_toArray, List.set_cons_zero, List.set_cons_succ])
      refine ty_nil ?_
      simp only [List.drop_succ_cons, List.drop_zero]
      intro W10 hw10 hΓ
      have A8 : wr.heap.size ≤ b8 ∧ Blk W10 b8 #[.int .i64 0, .int .i64 0, .int .i64 0, .int .i64 0, .string ⟨#[]⟩] 24 := hΓ _ (.head _)
      have HB10 := Below.thn HB hw10.out HBs
      have S10 := S9.below hw10.out
      have l9 := S9.lt
      have n1 : bs ≠ b8 := by have := A8.1; omega
      have g8 : w.heap.size ≤ b8 := by have := A8.1; omega
      clear hΓ hw10 HB HBs S9 T9
      refine wpList_put rfl 24 _ _ rfl b8 _ _ 24 rfl rfl A8.2 (by kernel_rfl) rfl (by first | rfl | decide | simp [Value.oneCell']) (fun W11 hp11 B11 => ?_)
      (try simp only [Act.put])
      have HB11 := hp11.below g8 HB10
      have S11 := hp11.blk n1 S10
      have HB11s := HB11.size
      clear A8 HB10 S10 hp11 l9
      by_cases hm0 : m = 0
      · subst hm0
        go_wp2_with fail
        refine (CE.out _).mono ?_
        rintro e W12 ⟨rfl, hb⟩
        have HB12 := Below.thn HB11 hb HB11s
        have S12 := S11.below hb
        have B12 := B11.below hb
        have HB12s := HB12.size
        have S12c := S12.cell; have S12l := S12.lt; have B12c := B12.cell; have B12l := B12.lt
        clear hb HB11 HB11s S11 B11
        simp only [decide_true]
        go_wp2_with fail
        refine (same_true _ _ _ _ _ _).mono ?_
        rintro e W13 ⟨rfl, hb⟩
        have HB13 := Below.thn HB12 hb HB12s
        have HB13s := HB13.size
        clear hb HB12 HB12s S12 B12 S12c S12l B12c B12l
        go_wp2_with fail
        refine (CE2.out _).mono ?_
        rintro e W14 ⟨rfl, hb⟩
        have HB14 := Below.thn HB13 hb HB13s
        have HB14s := HB14.size
        clear hb HB13 HB13s
        go_wp2_with fail
        refine (CE3.out _).mono ?_
        rintro e W15 ⟨rfl, hb⟩
        have HB15 := Below.thn HB14 hb HB14s
        go_wp2_with fail
        go_ret
        exact ⟨rfl, HB15⟩
      · have hmi : ¬ (m : Int) = 0 := by omega
        have hm0b : ((m : Int) == 0) = false := by simp; omega
        go_wp2_with fail
        refine (CE.out _).mono ?_
        rintro e W12 ⟨rfl, hb⟩
        have HB12 := Below.thn HB11 hb HB11s
        have S12 := S11.below hb
        have B12 := B11.below hb
        have HB12s := HB12.size
        have S12c := S12.cell; have S12l := S12.lt; have B12c := B12.cell; have B12l := B12.lt
        clear hb HB11 HB11s S11 B11
        rw [decide_eq_false hm0]
        go_wp2_with fail
        refine (same_true _ _ _ _ _ _).mono ?_
        rintro e W13 ⟨rfl, hb⟩
        have HB13 := Below.thn HB12 hb HB12s
        have HB13s := HB13.size
        clear hb HB12 HB12s S12 B12 S12c S12l B12c B12l
        go_wp2_with fail
        refine (CE2.out _).mono ?_
        rintro e W14 ⟨rfl, hb⟩
        have HB14 := Below.thn HB13 hb HB13s
        have HB14s := HB14.size
        clear hb HB13 HB13s
        go_wp2_with fail
        refine (CE3.out _).mono ?_
        rintro e W15 ⟨rfl, hb⟩
        have HB15 := Below.thn HB14 hb HB14s
        go_wp2_with fail
        go_ret
        exact ⟨rfl, HB15⟩
    | succ g =>
      have hi' : (i : Int) < n := by omega
      have his : i < st.size := by rw [HSZ.out.1]; omega
      have hit : i < tt.size := by rw [HSZ.out.2]; omega
      have kis : (i : Int) < st.size := by omega
      have kit : (i : Int) < tt.size := by omega
      rw [cnt_next _ _ _ (show i < st.data.toList.length from his) (show i < tt.data.toList.length from hit), ba_getD st i his, ba_getD tt i hit] at hc
      obtain ⟨x, hx⟩ : ∃ c, st[i] = c := ⟨_, rfl⟩
      obtain ⟨y, hy⟩ : ∃ c, tt[i] = c := ⟨_, rfl⟩
      rw [hx, hy] at hc
      have hm2 : m ≤ 1920 := by omega
      by_cases hxy : x = y
      · rw [if_pos hxy] at hc
        have HC := Lib.hid hc
        have q4 : ((x.toNat : Int) != (y.toNat : Int)) = false := by simp [hxy]
        have q5 : ((x.toNat) != (y.toNat)) = false := by simp [hxy]
        clear hi hc hxy
        go_wp2_with fail
        refine wp_region_typed 8 (fun k => match k with  | _ => []) (fun k => match k with  | _ => false) (fun k => match k with | 1 => some ⟨(Unit), (()), (fun _ => .string st), (fun _ _ => True), (fun _ _ _ h _ => h)⟩ | 5 => some ⟨(Unit), (()), (fun _ => .string tt), (fun _ _ => True), (fun _ _ _ h _ => h)⟩ | _ => none) (by kernel_rfl) (by kernel_rfl) (by intro d0 v0 c0 a0 w0 h0; cases d0 <;> exact h0) ?_
        rw [show List.range 8 = [0, 1, 2, 3, 4, 5, 6, 7] from rfl]
        first
          | (refine ty_skip rfl rfl ?_; (try simp only [Act.put, List.setIfInBounds_toArray, List.set_cons_zero, List.set_cons_succ]))
          | (refine ty_pure rfl rfl rfl rfl ?_; apply Exists.intro; refine ⟨fun wq hq hk => ?_, ?_⟩
             · have f0 := hq.blk S9; have f1 := hq.blk T9; simp only [pureAt]; go_simp; (try simp only [↓IntWalk.iteOmega]); (try go_bits); (try simp only [pureUpon]); (first | done | exact ⟨rfl, rfl⟩ | exact ⟨trivial, rfl⟩ | rfl)
             (try simp only [Act.put, List.setIfInBounds_toArray, List.set_cons_zero, List.set_cons_succ]))
        refine ty_rel rfl rfl _ rfl rfl (fun wq hq hk => ?_) ?_
        · have f0 := hq.blk S9; have f1 := hq.blk T9; simp only [relAt]; go_simp; (try simp only [relUpon]); (go_at_call 13; refine (cells_any _ _ _ _ _ _).mono ?_; rintro e w9 ⟨rfl, hb9⟩; exact ⟨_, rfl, .mk hb9 () rfl trivial⟩)
        rintro ⟨⟩
        (try simp only [Act.put, List.setIfInBounds_toArray, List.set_cons_zero, List.set_cons_succ])
        first
          | (refine ty_skip rfl rfl ?_; (try simp only [Act.put, List.setIfInBounds_toArray, List.set_cons_zero, List.set_cons_succ]))
          | (refine ty_pure rfl rfl rfl rfl ?_; apply Exists.intro; refine ⟨fun wq hq hk => ?_, ?_⟩
             · have f0 := hq.blk S9; have f1 := hq.blk T9; simp only [pureAt]; go_simp; (try simp only [↓IntWalk.iteOmega]); (try go_bits); (try simp only [pureUpon]); (first | done | exact ⟨rfl, rfl⟩ | exact ⟨trivial, rfl⟩ | rfl)
             (try simp only [Act.put, List.setIfInBounds_toArray, List.set_cons_zero, List.set_cons_succ]))
        first
          | (refine ty_skip rfl rfl ?_; (try simp only [Act.put, List.setIfInBounds_toArray, List.set_cons_zero, List.set_cons_succ]))
          | (refine ty_pure rfl rfl rfl rfl ?_; apply Exists.intro; refine ⟨fun wq hq hk => ?_, ?_⟩
             · have f0 := hq.blk S9; have f1 := hq.blk T9; simp only [pureAt]; go_simp; (try simp only [↓IntWalk.iteOmega]); (try go_bits); (try simp only [pureUpon]); (first | done | exact ⟨rfl, rfl⟩ | exact ⟨trivial, rfl⟩ | rfl)
             (try simp only [Act.put, List.setIfInBounds_toArray, List.set_cons_zero, List.set_cons_succ]))
        first
          | (refine ty_skip rfl rfl ?_; (try simp only [Act.put, List.setIfInBounds_toArray, List.set_cons_zero, List.set_cons_succ]))
          | (refine ty_pure rfl rfl rfl rfl ?_; apply Exists.intro; refine ⟨fun wq hq hk => ?_, ?_⟩
             · have f0 := hq.blk S9; have f1 := hq.blk T9; simp only [pureAt]; go_simp; (try simp only [↓IntWalk.iteOmega]); (try go_bits); (try simp only [pureUpon]); (first | done | exact ⟨rfl, rfl⟩ | exact ⟨trivial, rfl⟩ | rfl)
             (try simp only [Act.put, List.setIfInBounds_toArray, List.set_cons_zero, List.set_cons_succ]))
        refine ty_rel rfl rfl _ rfl rfl (fun wq hq hk => ?_) ?_
        · have f0 := hq.blk S9; have f1 := hq.blk T9; simp only [relAt]; go_simp; (try simp only [relUpon]); (go_at_call 13; refine (cells_any _ _ _ _ _ _).mono ?_; rintro e w9 ⟨rfl, hb9⟩; exact ⟨_, rfl, .mk hb9 () rfl trivial⟩)
        rintro ⟨⟩
        (try simp only [Act.put, List.setIfInBounds_toArray, List.set_cons_zero, List.set_cons_succ])
        first
          | (refine ty_skip rfl rfl ?_; (try simp only [Act.put, List.setIfInBounds_toArray, List.set_cons_zero, List.set_cons_succ]))
          | (refine ty_pure rfl rfl rfl rfl ?_; apply Exists.intro; refine ⟨fun wq hq hk => ?_, ?_⟩
             · have f0 := hq.blk S9; have f1 := hq.blk T9; simp only [pureAt]; go_simp; (try simp only [↓IntWalk.iteOmega]); (try go_bits); (try simp only [pureUpon]); (first | done | exact ⟨rfl, rfl⟩ | exact ⟨trivial, rfl⟩ | rfl)
             (try simp only [Act.put, List.setIfInBounds_toArray, List.set_cons_zero, List.set_cons_succ]))
        first
          | (refine ty_skip rfl rfl ?_; (try simp only [Act.put, List.setIfInBounds_toArray, List.set_cons_zero, List.set_cons_succ]))
          | (refine ty_pure rfl rfl rfl rfl ?_; apply Exists.intro; refine ⟨fun wq hq hk => ?_, ?_⟩
             · have f0 := hq.blk S9; have f1 := hq.blk T9; simp only [pureAt]; go_simp; (try simp only [↓IntWalk.iteOmega]); (try go_bits); (try simp only [pureUpon]); (first | done | exact ⟨rfl, rfl⟩ | exact ⟨trivial, rfl⟩ | rfl)
             (try simp only [Act.put, List.setIfInBounds_toArray, List.set_cons_zero, List.set_cons_succ]))
        refine ty_nil ?_
        simp only [List.drop_succ_cons, List.drop_zero]
        intro W10 hw10 hΓ
        have HB10 := Below.thn HB hw10.out HBs
        have S10 := S9.below hw10.out
        have T10 := T9.below hw10.out
        clear hΓ hw10
        go_wp2_with fail
        go_roundg g
        case rel => exact ⟨i + 1, m, rfl, by simp, by have := HI.out; omega, by have := HC.out; omega, HB10, S10, T10⟩
        case measure => omega
      · rw [if_neg hxy] at hc
        have hne : x.toNat ≠ y.toNat := fun h => hxy (UInt8.toNat_inj.1 h)
        have HC := Lib.hid hc
        have q4 : ((x.toNat : Int) != (y.toNat : Int)) = true := by simp; omega
        have q5 : ((x.toNat) != (y.toNat)) = true := by simp; omega
        clear hi hc hxy hne
        go_wp2_with fail
        refine wp_region_typed 8 (fun k => match k with  | _ => []) (fun k => match k with  | _ => false) (fun k => match k with | 1 => some ⟨(Unit), (()), (fun _ => .string st), (fun _ _ => True), (fun _ _ _ h _ => h)⟩ | 5 => some ⟨(Unit), (()), (fun _ => .string tt), (fun _ _ => True), (fun _ _ _ h _ => h)⟩ | _ => none) (by kernel_rfl) (by kernel_rfl) (by intro d0 v0 c0 a0 w0 h0; cases d0 <;> exact h0) ?_
        rw [show List.range 8 = [0, 1, 2, 3, 4, 5, 6, 7] from rfl]
        first
          | (refine ty_skip rfl rfl ?_; (try simp only [Act.put, List.setIfInBounds_toArray, List.set_cons_zero, List.set_cons_succ]))
          | (refine ty_pure rfl rfl rfl rfl ?_; apply Exists.intro; refine ⟨fun wq hq hk => ?_, ?_⟩
             · have f0 := hq.blk S9; have f1 := hq.blk T9; simp only [pureAt]; go_simp; (try simp only [↓IntWalk.iteOmega]); (try go_bits); (try simp only [pureUpon]); (first | done | exact ⟨rfl, rfl⟩ | exact ⟨trivial, rfl⟩ | rfl)
             (try simp only [Act.put, List.setIfInBounds_toArray, List.set_cons_zero, List.set_cons_succ]))
        refine ty_rel rfl rfl _ rfl rfl (fun wq hq hk => ?_) ?_
        · have f0 := hq.blk S9; have f1 := hq.blk T9; simp only [relAt]; go_simp; (try simp only [relUpon]); (go_at_call 13; refine (cells_any _ _ _ _ _ _).mono ?_; rintro e w9 ⟨rfl, hb9⟩; exact ⟨_, rfl, .mk hb9 () rfl trivial⟩)
        rintro ⟨⟩
        (try simp only [Act.put, List.setIfInBounds_toArray, List.set_cons_zero, List.set_cons_succ])
        first
          | (refine ty_skip rfl rfl ?_; (try simp only [Act.put, List.setIfInBounds_toArray, List.set_cons_zero, List.set_cons_succ]))
          | (refine ty_pure rfl rfl rfl rfl ?_; apply Exists.intro; refine ⟨fun wq hq hk => ?_, ?_⟩
             · have f0 := hq.blk S9; have f1 := hq.blk T9; simp only [pureAt]; go_simp; (try simp only [↓IntWalk.iteOmega]); (try go_bits); (try simp only [pureUpon]); (first | done | exact ⟨rfl, rfl⟩ | exact ⟨trivial, rfl⟩ | rfl)
             (try simp only [Act.put, List.setIfInBounds_toArray, List.set_cons_zero, List.set_cons_succ]))
        first
          | (refine ty_skip rfl rfl ?_; (try simp only [Act.put, List.setIfInBounds_toArray, List.set_cons_zero, List.set_cons_succ]))
          | (refine ty_pure rfl rfl rfl rfl ?_; apply Exists.intro; refine ⟨fun wq hq hk => ?_, ?_⟩
             · have f0 := hq.blk S9; have f1 := hq.blk T9; simp only [pureAt]; go_simp; (try simp only [↓IntWalk.iteOmega]); (try go_bits); (try simp only [pureUpon]); (first | done | exact ⟨rfl, rfl⟩ | exact ⟨trivial, rfl⟩ | rfl)
             (try simp only [Act.put, List.setIfInBounds_toArray, List.set_cons_zero, List.set_cons_succ]))
        first
          | (refine ty_skip rfl rfl ?_; (try simp only [Act.put, List.setIfInBounds_toArray, List.set_cons_zero, List.set_cons_succ]))
          | (refine ty_pure rfl rfl rfl rfl ?_; apply Exists.intro; refine ⟨fun wq hq hk => ?_, ?_⟩
             · have f0 := hq.blk S9; have f1 := hq.blk T9; simp only [pureAt]; go_simp; (try simp only [↓IntWalk.iteOmega]); (try go_bits); (try simp only [pureUpon]); (first | done | exact ⟨rfl, rfl⟩ | exact ⟨trivial, rfl⟩ | rfl)
             (try simp only [Act.put, List.setIfInBounds_toArray, List.set_cons_zero, List.set_cons_succ]))
        refine ty_rel rfl rfl _ rfl rfl (fun wq hq hk => ?_) ?_
        · have f0 := hq.blk S9; have f1 := hq.blk T9; simp only [relAt]; go_simp; (try simp only [relUpon]); (go_at_call 13; refine (cells_any _ _ _ _ _ _).mono ?_; rintro e w9 ⟨rfl, hb9⟩; exact ⟨_, rfl, .mk hb9 () rfl trivial⟩)
        rintro ⟨⟩
        (try simp only [Act.put, List.setIfInBounds_toArray, List.set_cons_zero, List.set_cons_succ])
        first
          | (refine ty_skip rfl rfl ?_; (try simp only [Act.put, List.setIfInBounds_toArray, List.set_cons_zero, List.set_cons_succ]))
          | (refine ty_pure rfl rfl rfl rfl ?_; apply Exists.intro; refine ⟨fun wq hq hk => ?_, ?_⟩
             · have f0 := hq.blk S9; have f1 := hq.blk T9; simp only [pureAt]; go_simp; (try simp only [↓IntWalk.iteOmega]); (try go_bits); (try simp only [pureUpon]); (first | done | exact ⟨rfl, rfl⟩ | exact ⟨trivial, rfl⟩ | rfl)
             (try simp only [Act.put, List.setIfInBounds_toArray, List.set_cons_zero, List.set_cons_succ]))
        first
          | (refine ty_skip rfl rfl ?_; (try simp only [Act.put, List.setIfInBounds_toArray, List.set_cons_zero, List.set_cons_succ]))
          | (refine ty_pure rfl rfl rfl rfl ?_; apply Exists.intro; refine ⟨fun wq hq hk => ?_, ?_⟩
             · have f0 := hq.blk S9; have f1 := hq.blk T9; simp only [pureAt]; go_simp; (try simp only [↓IntWalk.iteOmega]); (try go_bits); (try simp only [pureUpon]); (first | done | exact ⟨rfl, rfl⟩ | exact ⟨trivial, rfl⟩ | rfl)
             (try simp only [Act.put, List.setIfInBounds_toArray, List.set_cons_zero, List.set_cons_succ]))
        refine ty_nil ?_
        simp only [List.drop_succ_cons, List.drop_zero]
        intro W10 hw10 hΓ
        have HB10 := Below.thn HB hw10.out HBs
        have S10 := S9.below hw10.out
        have T10 := T9.below hw10.out
        clear hΓ hw10
        go_wp2_with fail
        go_roundg g
        case rel => exact ⟨i + 1, m + 1, by simp, by simp, by have := HI.out; omega, by have := HC.out; omega, HB10, S10, T10⟩
        case measure => omega
end Go.Proofs.Ytgdmeaoghhkknaa
