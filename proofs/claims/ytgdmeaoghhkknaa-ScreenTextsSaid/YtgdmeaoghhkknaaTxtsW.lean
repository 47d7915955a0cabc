/- ScreenTexts: the walk. -/
import Derived.Test.YtgdmeaoghhkknaaRTxt3
import Derived.Test.YtgdmeaoghhkknaaRTxt4
import Derived.Test.YtgdmeaoghhkknaaRScr7
import Derived.Test.YtgdmeaoghhkknaaStaysW
namespace Go.Proofs.Ytgdmeaoghhkknaa
open Go.RowKit

/-- What is known of the text t by both. -/
def Both (t : ByteArray) : Prop :=
  ((∀ W, Calls Try.prog 21 #[.string t] W fun e w' => e = .returned (.tuple #[VV 0 0 0 0 ⟨#[]⟩, .int .i64 4]) ∧ Below W.heap.size W w') ∧
   (∀ W, Calls Try.prog 24 #[.string t] W fun e w' => e = .returned (.tuple #[RV 0 0 0 0 (.slice none 0 0), .bool false]) ∧ Below W.heap.size W w')) ∨
  (∃ s : Scr, (∀ W, Calls Try.prog 21 #[.string t] W fun e w' => e = .returned (.tuple #[VV s.w s.h s.x s.y (txt s.b), .int .i64 0]) ∧ Below W.heap.size W w') ∧
   (∀ W, Calls Try.prog 24 #[.string t] W fun e w' => ∃ b off c, e = .returned (.tuple #[RV s.w s.h s.x s.y (.slice (some ⟨b, off, none⟩) s.h c), .bool true]) ∧ RScrAt w' (RV s.w s.h s.x s.y (.slice (some ⟨b, off, none⟩) s.h c)) s ∧ Below W.heap.size W w') ∧
   (∀ W v, RScrAt W v s → Calls Try.prog 20 #[VV s.w s.h s.x s.y (txt s.b), v] W fun e w' => e = .returned (.bool true) ∧ Below W.heap.size W w') ∧
   (∀ W, Calls Try.prog 22 #[VV s.w s.h s.x s.y (txt s.b)] W fun e w' => e = .returned (.string t) ∧ Below W.heap.size W w'))
theorem both_any (t : ByteArray) (ht : t.size ≤ 100000) : Both t := by
  have h1 := fun W => parse_any t W ht
  have h2 := fun W => rparse_any t W ht
  unfold RPost at h2
  cases hp : parseS t with
  | none =>
    rw [hp] at h1
    refine .inl ⟨h1, fun W => (h2 W).mono ?_⟩
    rintro e w' (⟨_, h5, h6⟩ | ⟨s, v, h5, _⟩)
    · exact ⟨h5, h6⟩
    · rw [hp] at h5; cases h5
  | some s =>
    rw [hp] at h1
    have hok := parse_okS t s hp
    refine .inr ⟨s, h1, fun W => (h2 W).mono ?_, fun W v h => is_any s v W h hok, fun W => by have := text_any s W hok; rw [parse_back t s hp] at this; exact this⟩
    rintro e w' (⟨h5, _⟩ | ⟨s', v, h5, h6, h7, h8⟩)
    · rw [hp] at h5; cases h5
    · rw [hp] at h5
      obtain rfl := Option.some.inj h5
      obtain ⟨b, off, c, rfl, h9⟩ := h7
      exact ⟨b, off, c, h6, ⟨b, off, c, rfl, h9⟩, h8⟩

set_option maxHeartbeats 4000000 in
set_option maxRecDepth 20000 in
theorem texts_long (z0 z1 : Int) (o t : ByteArray) (w : World) (h : 2000 < o.size ∨ 2000 < t.size) :
    Calls Try.prog 7 #[.int .i64 z0, .int .i64 z1, .string o, .string t] w fun e w' => e = .returned (.bool true) ∧ Below w.heap.size w w' := by
  by_cases p1 : (2000 : Int) < o.size
  · go_enter Try.func7, Try.ntmps7
    go_wp2_with fail
    refine (awake11 _).mono ?_
    rintro e w1 ⟨rfl, hb1⟩
    have hbs1 := hb1.size
    go_wp2_with fail
    go_ret
    exact ⟨rfl, hb1⟩
  have p2 : (2000 : Int) < t.size := by omega
  go_enter Try.func7, Try.ntmps7
  go_wp2_with fail
  refine (awake11 _).mono ?_
  rintro e w1 ⟨rfl, hb1⟩
  have hbs1 := hb1.size
  go_wp2_with fail
  go_ret
  exact ⟨rfl, hb1⟩

set_option maxHeartbeats 8000000 in
set_option maxRecDepth 20000 in
theorem texts_bad (z0 z1 : Int) (o t : ByteArray) (w : World) (ho : o.size ≤ 2000) (ht : t.size ≤ 2000) (hB : Both t) (h : z0 < 1 ∨ 80 < z0 ∨ z1 < 1 ∨ 24 < z1) :
    Calls Try.prog 7 #[.int .i64 z0, .int .i64 z1, .string o, .string t] w fun e w' => e = .returned (.bool true) ∧ Below w.heap.size w w' := by
  have p1 : ¬ (2000 : Int) < o.size := by omega
  have p2 : ¬ (2000 : Int) < t.size := by omega
  have hN := fun W => new_bad z0 z1 W h
  have HN := Lib.hid hN
  clear hN
  rcases hB with ⟨hB1, hB2⟩ | ⟨s, hB1, hB2, hB3, hB4⟩
  · go_enter Try.func7, Try.ntmps7
    go_wp2_with fail
    refine (awake11 _).mono ?_
    rintro e wa ⟨rfl, HBa⟩
    have HBas := HBa.size
    go_wp2_with fail
    refine (HN.out _).mono ?_
    rintro e wb ⟨rfl, hb⟩
    have HBb := Below.thn HBa hb HBas
    have HBbs := HBb.size
    clear hb HBa HBas
    go_wp2_with fail
    refine (hB1 _).mono ?_
    rintro e w6 ⟨rfl, hb⟩
    have HB6 := Below.thn (by (repeat (first | (with_reducible assumption) | (with_reducible exact Below.refl _ _) | with_reducible apply bl_drewN | with_reducible apply Below.drew | (with_reducible apply bl_alloc; focus (first | (simp; done) | (simp; omega) | omega)) | (with_reducible apply bl_set; focus (first | (simp; done) | (simp; omega) | omega))))) hb
    have HB6s := HB6.size
    clear hb
    go_upto_region 12 with fail
    refine wp_absQ (fun W => Below w.heap.size w W ∧ Blk W w6.heap.size #[.int .i64 0, .int .i64 0, .int .i64 0, .int .i64 0, .string ⟨#[]⟩] 24) ⟨by (repeat (first | (with_reducible assumption) | (with_reducible exact Below.refl _ _) | with_reducible apply bl_drewN | with_reducible apply Below.drew | (with_reducible apply bl_alloc; focus (first | (simp; done) | (simp; omega) | omega)) | (with_reducible apply bl_set; focus (first | (simp; done) | (simp; omega) | omega)))), by (repeat (first | (with_reducible assumption) | (with_reducible apply Blk.new'; (first | (with_reducible rfl) | (simp; done))) | with_reducible apply Blk.alloc | with_reducible apply Blk.set | ((with_reducible apply Blk.set_ne); focus (first | (simp; done) | (simp; omega))) | with_reducible apply Blk.drewN | with_reducible apply Blk.drew))⟩ (fun W7 h7 => ?_)
    obtain ⟨HB7, B7⟩ := h7
    have HB7s := HB7.size
    go_wp2_with fail
    refine (hB2 _).mono ?_
    rintro e w8 ⟨rfl, hb⟩
    have HB8 := Below.thn HB7 hb HB7s
    have B8 := B7.below hb
    have HB8s := HB8.size
    clear hb HB7 B7 HB7s HB6 HB6s
    go_upto_region 13 with fail
    refine wp_absQ (fun W => Below w.heap.size w W ∧ Blk W w6.heap.size #[.int .i64 0, .int .i64 0, .int .i64 0, .int .i64 0, .string ⟨#[]⟩] 24) ⟨by (repeat (first | (with_reducible assumption) | (with_reducible exact Below.refl _ _) | with_reducible apply bl_drewN | with_reducible apply Below.drew | (with_reducible apply bl_alloc; focus (first | (simp; done) | (simp; omega) | omega)) | (with_reducible apply bl_set; focus (first | (simp; done) | (simp; omega) | omega)))), by (repeat (first | (with_reducible assumption) | (with_reducible apply Blk.new'; (first | (with_reducible rfl) | (simp; done))) | with_reducible apply Blk.alloc | with_reducible apply Blk.set | ((with_reducible apply Blk.set_ne); focus (first | (simp; done) | (simp; omega))) | with_reducible apply Blk.drewN | with_reducible apply Blk.drew))⟩ (fun W9 h9 => ?_)
    obtain ⟨HB9, B9⟩ := h9
    have HB9s := HB9.size
    have B9c := B9.cell; have B9l := B9.lt
    go_wp2_with fail
    refine (same_true _ _ _ _ _ _).mono ?_
    rintro e w10 ⟨rfl, hb⟩
    have HB10 := Below.thn HB9 hb HB9s
    go_wp2_with fail
    go_ret
    exact ⟨rfl, HB10⟩
  · go_enter Try.func7, Try.ntmps7
    go_wp2_with fail
    refine (awake11 _).mono ?_
    rintro e wa ⟨rfl, HBa⟩
    have HBas := HBa.size
    go_wp2_with fail
    refine (HN.out _).mono ?_
    rintro e wb ⟨rfl, hb⟩
    have HBb := Below.thn HBa hb HBas
    have HBbs := HBb.size
    clear hb HBa HBas
    go_wp2_with fail
    refine (hB1 _).mono ?_
    rintro e w6 ⟨rfl, hb⟩
    have HB6 := Below.thn (by (repeat (first | (with_reducible assumption) | (with_reducible exact Below.refl _ _) | with_reducible apply bl_drewN | with_reducible apply Below.drew | (with_reducible apply bl_alloc; focus (first | (simp; done) | (simp; omega) | omega)) | (with_reducible apply bl_set; focus (first | (simp; done) | (simp; omega) | omega))))) hb
    have HB6s := HB6.size
    clear hb
    go_upto_region 12 with fail
    refine wp_absQ (fun W => Below w.heap.size w W ∧ Blk W w6.heap.size #[.int .i64 s.w, .int .i64 s.h, .int .i64 s.x, .int .i64 s.y, .string (txt s.b)] 24) ⟨by (repeat (first | (with_reducible assumption) | (with_reducible exact Below.refl _ _) | with_reducible apply bl_drewN | with_reducible apply Below.drew | (with_reducible apply bl_alloc; focus (first | (simp; done) | (simp; omega) | omega)) | (with_reducible apply bl_set; focus (first | (simp; done) | (simp; omega) | omega)))), by (repeat (first | (with_reducible assumption) | (with_reducible apply Blk.new'; (first | (with_reducible rfl) | (simp; done))) | with_reducible apply Blk.alloc | with_reducible apply Blk.set | ((with_reducible apply Blk.set_ne); focus (first | (simp; done) | (simp; omega))) | with_reducible apply Blk.drewN | with_reducible apply Blk.drew))⟩ (fun W7 h7 => ?_)
    obtain ⟨HB7, B7⟩ := h7
    have HB7s := HB7.size
    go_wp2_with fail
    refine (hB2 _).mono ?_
    rintro e w8 ⟨b, off, c, rfl, R8, hb⟩
    have HB8 := Below.thn HB7 hb HB7s
    have B8 := B7.below hb
    have HB8s := HB8.size
    clear hb HB7 B7 HB7s HB6 HB6s
    go_upto_region 13 with fail
    refine wp_absQ (fun W => Below w.heap.size w W ∧ Blk W w6.heap.size #[.int .i64 s.w, .int .i64 s.h, .int .i64 s.x, .int .i64 s.y, .string (txt s.b)] 24 ∧ Blk W w8.heap.size #[.int .i64 s.w, .int .i64 s.h, .int .i64 s.x, .int .i64 s.y, .slice (some ⟨b, off, none⟩) s.h c] 41 ∧ RScrAt W (RV s.w s.h s.x s.y (.slice (some ⟨b, off, none⟩) s.h c)) s) ⟨by (repeat (first | (with_reducible assumption) | (with_reducible exact Below.refl _ _) | with_reducible apply bl_drewN | with_reducible apply Below.drew | (with_reducible apply bl_alloc; focus (first | (simp; done) | (simp; omega) | omega)) | (with_reducible apply bl_set; focus (first | (simp; done) | (simp; omega) | omega)))), by (repeat (first | (with_reducible assumption) | (with_reducible apply Blk.new'; (first | (with_reducible rfl) | (simp; done))) | with_reducible apply Blk.alloc | with_reducible apply Blk.set | ((with_reducible apply Blk.set_ne); focus (first | (simp; done) | (simp; omega))) | with_reducible apply Blk.drewN | with_reducible apply Blk.drew)), by (repeat (first | (with_reducible assumption) | (with_reducible apply Blk.new'; (first | (with_reducible rfl) | (simp; done))) | with_reducible apply Blk.alloc | with_reducible apply Blk.set | ((with_reducible apply Blk.set_ne); focus (first | (simp; done) | (simp; omega))) | with_reducible apply Blk.drewN | with_reducible apply Blk.drew)), R8.below (by (repeat (first | (with_reducible assumption) | (with_reducible exact Below.refl _ _) | with_reducible apply bl_drewN | with_reducible apply Below.drew | (with_reducible apply bl_alloc; focus (first | (simp; done) | (simp; omega) | omega)) | (with_reducible apply bl_set; focus (first | (simp; done) | (simp; omega) | omega)))))⟩ (fun W9 h9 => ?_)
    obtain ⟨HB9, B9, C9, R9⟩ := h9
    have HB9s := HB9.size
    have B9c := B9.cell; have B9l := B9.lt; have C9c := C9.cell; have C9l := C9.lt
    go_wp2_with fail
    refine (hB3 _ _ R9).mono ?_
    rintro e w10 ⟨rfl, hb⟩
    have HB10 := Below.thn HB9 hb HB9s
    have B10 := B9.below hb
    have HB10s := HB10.size
    have B10c := B10.cell; have B10l := B10.lt
    clear hb HB9 B9 C9 R9 HB9s B9c B9l C9c C9l
    go_wp2_with fail
    refine (hB4 _).mono ?_
    rintro e w11 ⟨rfl, hb⟩
    have HB11 := Below.thn HB10 hb HB10s
    go_wp2_with fail
    go_ret
    exact ⟨rfl, HB11⟩

set_option maxHeartbeats 16000000 in
set_option maxRecDepth 20000 in
theorem texts_walk (cw ch : Nat) (o t : ByteArray) (w : World) (ho : o.size ≤ 2000) (ht : t.size ≤ 2000) (hB : Both t) (w1 : 1 ≤ cw) (w2 : cw ≤ 80) (h1 : 1 ≤ ch) (h2 : ch ≤ 24) :
    Calls Try.prog 7 #[.int .i64 cw, .int .i64 ch, .string o, .string t] w fun e w' => e = .returned (.bool true) ∧ Below w.heap.size w w' := by
  have p1 : ¬ (2000 : Int) < o.size := by omega
  have p2 : ¬ (2000 : Int) < t.size := by omega
  have hok0 := newS_ok w1 w2 h1 h2
  obtain ⟨N0, hN0⟩ : ∃ S, newS cw ch = S := ⟨_, rfl⟩
  have cN : ∀ W, Calls Try.prog 12 #[.int .i64 cw, .int .i64 ch] W fun e w' => e = .returned (.tuple #[VV cw ch 0 0 (txt N0.b), .int .i64 0]) ∧ Below W.heap.size W w' := fun W => by
    have := new_any cw ch W w1 w2 h1 h2
    rw [← hN0]; exact this
  have hN0w : N0.w = cw ∧ N0.h = ch ∧ N0.x = 0 ∧ N0.y = 0 := by rw [← hN0]; exact ⟨rfl, rfl, rfl, rfl⟩
  have cQ : ∀ W, Calls Try.prog 19 #[.int .i64 cw, .int .i64 ch] W fun e w' => ∃ v, e = .returned v ∧ RScrAt w' v N0 ∧ Below W.heap.size W w' := fun W => by
    rw [← hN0]; exact rnew_any cw ch W w1 w2 h1 h2
  rw [hN0] at hok0
  obtain ⟨S, hS⟩ : ∃ S, putL N0 o.data.toList = S := ⟨_, rfl⟩
  have hSok : S.Ok := by rw [← hS]; exact putL_ok hok0 _
  have hSpl : Plain S.b := by rw [← hS, ← hN0]; exact plain_putL (plain_rep _) _
  have hSw : S.w = cw ∧ S.h = ch := by rw [← hS, ← hN0w.1, ← hN0w.2.1]; exact putL_w _ _
  have cP : ∀ W, Calls Try.prog 14 #[VV cw ch 0 0 (txt N0.b), .string o] W fun e w' => e = .returned (VV cw ch S.x S.y (txt S.b)) ∧ Below W.heap.size W w' := fun W => by
    have := put_vv N0 o W hok0 (by omega) S hS
    rw [hSw.1, hSw.2, hN0w.1, hN0w.2.1, hN0w.2.2.1, hN0w.2.2.2] at this
    exact this
  have cR : ∀ v W, RScrAt W v N0 → Calls Try.prog 18 #[v, .string o] W fun e w' => ∃ v, e = .returned v ∧ RScrAt w' v S ∧ Below W.heap.size W w' := fun v W h => by
    rw [← hS]; exact rput_any N0 v o W h hok0 (by omega)
  have cT : ∀ W, Calls Try.prog 22 #[VV cw ch S.x S.y (txt S.b)] W fun e w' => e = .returned (.string (txtS S)) ∧ Below W.heap.size W w' := fun W => by
    have := text_any S W hSok
    rw [hSw.1, hSw.2] at this; exact this
  have hts : (txtS S).size ≤ 100000 := by
    show (head4 S ++ txt S.b).size ≤ _
    rw [ByteArray.size_append, txt_size, hSok.len]
    have h5 := wh_small hSok.w2 hSok.h2
    show 4 + _ ≤ _
    omega
  have cA : ∀ W, Calls Try.prog 21 #[.string (txtS S)] W fun e w' => e = .returned (.tuple #[VV cw ch S.x S.y (txt S.b), .int .i64 0]) ∧ Below W.heap.size W w' := fun W => by
    have := parse_any (txtS S) W hts
    have h5 : pv (some S) = .tuple #[VV cw ch S.x S.y (txt S.b), .int .i64 0] := by
      show Value.tuple #[VV S.w S.h S.x S.y (txt S.b), .int .i64 0] = _
      rw [hSw.1, hSw.2]
    rw [parse_text S hSok hSpl, h5] at this
    exact this
  have cU : ∀ v W, RScrAt W v S → Calls Try.prog 23 #[v] W fun e w' => e = .returned (.string (txtS S)) ∧ Below W.heap.size W w' := fun v W h => rtext_any S v W h hSok
  have CN := Lib.hid cN; have CQ := Lib.hid cQ; have CR := Lib.hid cR; have CP := Lib.hid cP; have CT := Lib.hid cT; have CA := Lib.hid cA; have CU := Lib.hid cU
  obtain ⟨sx, hsx⟩ : ∃ x, S.x = x := ⟨_, rfl⟩
  obtain ⟨sy, hsy⟩ : ∃ x, S.y = x := ⟨_, rfl⟩
  obtain ⟨st, hst⟩ : ∃ x, txt S.b = x := ⟨_, rfl⟩
  obtain ⟨nt, hnt⟩ : ∃ x, txt N0.b = x := ⟨_, rfl⟩
  obtain ⟨ts, hts⟩ : ∃ x, txtS S = x := ⟨_, rfl⟩
  rw [hsx, hsy, hst, hnt] at CP
  rw [hnt] at CN
  rw [hsx, hsy, hst, hts] at CT CA
  rw [hts] at CU
  clear cN cQ cR cP cT cA cU hSok hSw hok0 hS hN0 hSpl hsx hsy hst hnt hts hN0w
  rcases hB with ⟨hB1, hB2⟩ | ⟨s, hB1, hB2, hB3, hB4⟩
  · go_enter Try.func7, Try.ntmps7
    go_wp2_with fail
    refine (awake11 _).mono ?_
    rintro e wa ⟨rfl, HBa⟩
    have HBas := HBa.size
    go_wp2_with fail
    refine (CN.out _).mono ?_
    rintro e wb ⟨rfl, hb⟩
    have HBb := Below.thn HBa hb HBas
    have HBbs := HBb.size
    clear hb HBa HBas
    go_upto_region 6 with fail
    refine wp_absQ (fun W => Below w.heap.size w W ∧ Blk W wb.heap.size #[.int .i64 cw, .int .i64 ch, .int .i64 0, .int .i64 0, .string nt] 24) ⟨by (repeat (first | (with_reducible assumption) | (with_reducible exact Below.refl _ _) | with_reducible apply bl_drewN | with_reducible apply Below.drew | (with_reducible apply bl_alloc; focus (first | (simp; done) | (simp; omega) | omega)) | (with_reducible apply bl_set; focus (first | (simp; done) | (simp; omega) | omega)))), by (repeat (first | (with_reducible assumption) | (with_reducible apply Blk.new'; (first | (with_reducible rfl) | (simp; done))) | with_reducible apply Blk.alloc | with_reducible apply Blk.set | ((with_reducible apply Blk.set_ne); focus (first | (simp; done) | (simp; omega))) | with_reducible apply Blk.drewN | with_reducible apply Blk.drew))⟩ (fun W1 h5 => ?_)
    obtain ⟨HB1, B1⟩ := h5
    have HB1s := HB1.size
    have B1c := B1.cell; have B1l := B1.lt
    go_wp2_with fail
    refine (CP.out _).mono ?_
    rintro e w2' ⟨rfl, hb⟩
    have HB2 := Below.thn HB1 hb HB1s
    have HB2s := HB2.size
    have B2 := B1.below hb
    have B2c := B2.cell; have B2f := B2.frozen; have B2l := B2.lt
    clear hb HB1 HB1s B1 B1c B1l
    go_upto_region 8 with fail
    refine wp_absQ (fun W => Below w.heap.size w W ∧ Blk W wb.heap.size #[.int .i64 cw, .int .i64 ch, .int .i64 sx, .int .i64 sy, .string st] 24) ⟨by (repeat (first | (with_reducible assumption) | (with_reducible exact Below.refl _ _) | with_reducible apply bl_drewN | with_reducible apply Below.drew | (with_reducible apply bl_alloc; focus (first | (simp; done) | (simp; omega) | omega)) | (with_reducible apply bl_set; focus (first | (simp; done) | (simp; omega) | omega)))), (((((B2.set).set).set).set).set).conv rfl⟩ (fun W3 h5 => ?_)
    obtain ⟨HB3, B3⟩ := h5
    have HB3s := HB3.size
    have B3c := B3.cell; have B3l := B3.lt
    clear HB2 HB2s B2 B2c B2f B2l
    go_wp2_with fail
    refine (CT.out _).mono ?_
    rintro e w4 ⟨rfl, hb⟩
    have HB4 := Below.thn HB3 hb HB3s
    have HB4s := HB4.size
    have B4 := B3.below hb
    clear hb HB3 HB3s B3 B3c B3l
    go_wp2_with fail
    refine (CA.out _).mono ?_
    rintro e w5 ⟨rfl, hb⟩
    have HB5 := Below.thn HB4 hb HB4s
    have HB5s := HB5.size
    have B5 := B4.below hb
    clear hb HB4 HB4s B4
    go_upto_region 9 with fail
    refine wp_absQ (fun W => Below w.heap.size w W ∧ Blk W wb.heap.size #[.int .i64 cw, .int .i64 ch, .int .i64 sx, .int .i64 sy, .string st] 24 ∧ Blk W w5.heap.size #[.int .i64 cw, .int .i64 ch, .int .i64 sx, .int .i64 sy, .string st] 24) ⟨by (repeat (first | (with_reducible assumption) | (with_reducible exact Below.refl _ _) | with_reducible apply bl_drewN | with_reducible apply Below.drew | (with_reducible apply bl_alloc; focus (first | (simp; done) | (simp; omega) | omega)) | (with_reducible apply bl_set; focus (first | (simp; done) | (simp; omega) | omega)))), by (repeat (first | (with_reducible assumption) | (with_reducible apply Blk.new'; (first | (with_reducible rfl) | (simp; done))) | with_reducible apply Blk.alloc | with_reducible apply Blk.set | ((with_reducible apply Blk.set_ne); focus (first | (simp; done) | (simp; omega))) | with_reducible apply Blk.drewN | with_reducible apply Blk.drew)), by (repeat (first | (with_reducible assumption) | (with_reducible apply Blk.new'; (first | (with_reducible rfl) | (simp; done))) | with_reducible apply Blk.alloc | with_reducible apply Blk.set | ((with_reducible apply Blk.set_ne); focus (first | (simp; done) | (simp; omega))) | with_reducible apply Blk.drewN | with_reducible apply Blk.drew))⟩ (fun W6 h6 => ?_)
    obtain ⟨HB6, B6, C6⟩ := h6
    have HB6s := HB6.size
    have B6c := B6.cell; have B6l := B6.lt; have C6c := C6.cell; have C6l := C6.lt
    clear HB5 HB5s B5
    go_wp2_with fail
    refine (same_true _ _ _ _ _ _).mono ?_
    rintro e w7 ⟨rfl, hb⟩
    have HB7 := Below.thn HB6 hb HB6s
    have HB7s := HB7.size
    have B7 := B6.below hb
    have B7c := B7.cell; have B7l := B7.lt
    clear hb HB6 HB6s B6 C6 B6c B6l C6c C6l
    go_wp2_with fail
    refine (CT.out _).mono ?_
    rintro e w8 ⟨rfl, hb⟩
    have HB8 := Below.thn HB7 hb HB7s
    have HB8s := HB8.size
    clear hb HB7 HB7s B7 B7c B7l
    go_wp2_with fail
    refine (CQ.out _).mono ?_
    rintro e w9 ⟨v9, rfl, R9, hb⟩
    have HB9 := Below.thn HB8 hb HB8s
    have HB9s := HB9.size
    clear hb HB8 HB8s
    go_wp2_with fail
    refine (CR.out _ _ R9).mono ?_
    rintro e w10 ⟨v10, rfl, R10, hb⟩
    have HB10 := Below.thn HB9 hb HB9s
    have HB10s := HB10.size
    clear hb HB9 HB9s R9
    go_wp2_with fail
    refine (CU.out _ _ R10).mono ?_
    rintro e w11 ⟨rfl, hb⟩
    have HB11 := Below.thn HB10 hb HB10s
    have HB11s := HB11.size
    clear hb HB10 HB10s R10
    go_wp2_with fail
    refine (hB1 _).mono ?_
    rintro e w6 ⟨rfl, hb⟩
    have HB6 := Below.thn (by (repeat (first | (with_reducible assumption) | (with_reducible exact Below.refl _ _) | with_reducible apply bl_drewN | with_reducible apply Below.drew | (with_reducible apply bl_alloc; focus (first | (simp; done) | (simp; omega) | omega)) | (with_reducible apply bl_set; focus (first | (simp; done) | (simp; omega) | omega))))) hb
    have HB6s := HB6.size
    clear hb
    go_upto_region 12 with fail
    refine wp_absQ (fun W => Below w.heap.size w W ∧ Blk W w6.heap.size #[.int .i64 0, .int .i64 0, .int .i64 0, .int .i64 0, .string ⟨#[]⟩] 24) ⟨by (repeat (first | (with_reducible assumption) | (with_reducible exact Below.refl _ _) | with_reducible apply bl_drewN | with_reducible apply Below.drew | (with_reducible apply bl_alloc; focus (first | (simp; done) | (simp; omega) | omega)) | (with_reducible apply bl_set; focus (first | (simp; done) | (simp; omega) | omega)))), by (repeat (first | (with_reducible assumption) | (with_reducible apply Blk.new'; (first | (with_reducible rfl) | (simp; done))) | with_reducible apply Blk.alloc | with_reducible apply Blk.set | ((with_reducible apply Blk.set_ne); focus (first | (simp; done) | (simp; omega))) | with_reducible apply Blk.drewN | with_reducible apply Blk.drew))⟩ (fun W7 h7 => ?_)
    obtain ⟨HB7, B7⟩ := h7
    have HB7s := HB7.size
    go_wp2_with fail
    refine (hB2 _).mono ?_
    rintro e w8 ⟨rfl, hb⟩
    have HB8 := Below.thn HB7 hb HB7s
    have B8 := B7.below hb
    have HB8s := HB8.size
    clear hb HB7 B7 HB7s HB6 HB6s
    go_upto_region 13 with fail
    refine wp_absQ (fun W => Below w.heap.size w W ∧ Blk W w6.heap.size #[.int .i64 0, .int .i64 0, .int .i64 0, .int .i64 0, .string ⟨#[]⟩] 24) ⟨by (repeat (first | (with_reducible assumption) | (with_reducible exact Below.refl _ _) | with_reducible apply bl_drewN | with_reducible apply Below.drew | (with_reducible apply bl_alloc; focus (first | (simp; done) | (simp; omega) | omega)) | (with_reducible apply bl_set; focus (first | (simp; done) | (simp; omega) | omega)))), by (repeat (first | (with_reducible assumption) | (with_reducible apply Blk.new'; (first | (with_reducible rfl) | (simp; done))) | with_reducible apply Blk.alloc | with_reducible apply Blk.set | ((with_reducible apply Blk.set_ne); focus (first | (simp; done) | (simp; omega))) | with_reducible apply Blk.drewN | with_reducible apply Blk.drew))⟩ (fun W9 h9 => ?_)
    obtain ⟨HB9, B9⟩ := h9
    have HB9s := HB9.size
    have B9c := B9.cell; have B9l := B9.lt
    go_wp2_with fail
    refine (same_true _ _ _ _ _ _).mono ?_
    rintro e w10 ⟨rfl, hb⟩
    have HB10 := Below.thn HB9 hb HB9s
    go_wp2_with fail
    go_ret
    exact ⟨rfl, HB10⟩
  · go_enter Try.func7, Try.ntmps7
    go_wp2_with fail
    refine (awake11 _).mono ?_
    rintro e wa ⟨rfl, HBa⟩
    have HBas := HBa.size
    go_wp2_with fail
    refine (CN.out _).mono ?_
    rintro e wb ⟨rfl, hb⟩
    have HBb := Below.thn HBa hb HBas
    have HBbs := HBb.size
    clear hb HBa HBas
    go_upto_region 6 with fail
    refine wp_absQ (fun W => Below w.heap.size w W ∧ Blk W wb.heap.size #[.int .i64 cw, .int .i64 ch, .int .i64 0, .int .i64 0, .string nt] 24) ⟨by (repeat (first | (with_reducible assumption) | (with_reducible exact Below.refl _ _) | with_reducible apply bl_drewN | with_reducible apply Below.drew | (with_reducible apply bl_alloc; focus (first | (simp; done) | (simp; omega) | omega)) | (with_reducible apply bl_set; focus (first | (simp; done) | (simp; omega) | omega)))), by (repeat (first | (with_reducible assumption) | (with_reducible apply Blk.new'; (first | (with_reducible rfl) | (simp; done))) | with_reducible apply Blk.alloc | with_reducible apply Blk.set | ((with_reducible apply Blk.set_ne); focus (first | (simp; done) | (simp; omega))) | with_reducible apply Blk.drewN | with_reducible apply Blk.drew))⟩ (fun W1 h5 => ?_)
    obtain ⟨HB1, B1⟩ := h5
    have HB1s := HB1.size
    have B1c := B1.cell; have B1l := B1.lt
    go_wp2_with fail
    refine (CP.out _).mono ?_
    rintro e w2' ⟨rfl, hb⟩
    have HB2 := Below.thn HB1 hb HB1s
    have HB2s := HB2.size
    have B2 := B1.below hb
    have B2c := B2.cell; have B2f := B2.frozen; have B2l := B2.lt
    clear hb HB1 HB1s B1 B1c B1l
    go_upto_region 8 with fail
    refine wp_absQ (fun W => Below w.heap.size w W ∧ Blk W wb.heap.size #[.int .i64 cw, .int .i64 ch, .int .i64 sx, .int .i64 sy, .string st] 24) ⟨by (repeat (first | (with_reducible assumption) | (with_reducible exact Below.refl _ _) | with_reducible apply bl_drewN | with_reducible apply Below.drew | (with_reducible apply bl_alloc; focus (first | (simp; done) | (simp; omega) | omega)) | (with_reducible apply bl_set; focus (first | (simp; done) | (simp; omega) | omega)))), (((((B2.set).set).set).set).set).conv rfl⟩ (fun W3 h5 => ?_)
    obtain ⟨HB3, B3⟩ := h5
    have HB3s := HB3.size
    have B3c := B3.cell; have B3l := B3.lt
    clear HB2 HB2s B2 B2c B2f B2l
    go_wp2_with fail
    refine (CT.out _).mono ?_
    rintro e w4 ⟨rfl, hb⟩
    have HB4 := Below.thn HB3 hb HB3s
    have HB4s := HB4.size
    have B4 := B3.below hb
    clear hb HB3 HB3s B3 B3c B3l
    go_wp2_with fail
    refine (CA.out _).mono ?_
    rintro e w5 ⟨rfl, hb⟩
    have HB5 := Below.thn HB4 hb HB4s
    have HB5s := HB5.size
    have B5 := B4.below hb
    clear hb HB4 HB4s B4
    go_upto_region 9 with fail
    refine wp_absQ (fun W => Below w.heap.size w W ∧ Blk W wb.heap.size #[.int .i64 cw, .int .i64 ch, .int .i64 sx, .int .i64 sy, .string st] 24 ∧ Blk W w5.heap.size #[.int .i64 cw, .int .i64 ch, .int .i64 sx, .int .i64 sy, .string st] 24) ⟨by (repeat (first | (with_reducible assumption) | (with_reducible exact Below.refl _ _) | with_reducible apply bl_drewN | with_reducible apply Below.drew | (with_reducible apply bl_alloc; focus (first | (simp; done) | (simp; omega) | omega)) | (with_reducible apply bl_set; focus (first | (simp; done) | (simp; omega) | omega)))), by (repeat (first | (with_reducible assumption) | (with_reducible apply Blk.new'; (first | (with_reducible rfl) | (simp; done))) | with_reducible apply Blk.alloc | with_reducible apply Blk.set | ((with_reducible apply Blk.set_ne); focus (first | (simp; done) | (simp; omega))) | with_reducible apply Blk.drewN | with_reducible apply Blk.drew)), by (repeat (first | (with_reducible assumption) | (with_reducible apply Blk.new'; (first | (with_reducible rfl) | (simp; done))) | with_reducible apply Blk.alloc | with_reducible apply Blk.set | ((with_reducible apply Blk.set_ne); focus (first | (simp; done) | (simp; omega))) | with_reducible apply Blk.drewN | with_reducible apply Blk.drew))⟩ (fun W6 h6 => ?_)
    obtain ⟨HB6, B6, C6⟩ := h6
    have HB6s := HB6.size
    have B6c := B6.cell; have B6l := B6.lt; have C6c := C6.cell; have C6l := C6.lt
    clear HB5 HB5s B5
    go_wp2_with fail
    refine (same_true _ _ _ _ _ _).mono ?_
    rintro e w7 ⟨rfl, hb⟩
    have HB7 := Below.thn HB6 hb HB6s
    have HB7s := HB7.size
    have B7 := B6.below hb
    have B7c := B7.cell; have B7l := B7.lt
    clear hb HB6 HB6s B6 C6 B6c B6l C6c C6l
    go_wp2_with fail
    refine (CT.out _).mono ?_
    rintro e w8 ⟨rfl, hb⟩
    have HB8 := Below.thn HB7 hb HB7s
    have HB8s := HB8.size
    clear hb HB7 HB7s B7 B7c B7l
    go_wp2_with fail
    refine (CQ.out _).mono ?_
    rintro e w9 ⟨v9, rfl, R9, hb⟩
    have HB9 := Below.thn HB8 hb HB8s
    have HB9s := HB9.size
    clear hb HB8 HB8s
    go_wp2_with fail
    refine (CR.out _ _ R9).mono ?_
    rintro e w10 ⟨v10, rfl, R10, hb⟩
    have HB10 := Below.thn HB9 hb HB9s
    have HB10s := HB10.size
    clear hb HB9 HB9s R9
    go_wp2_with fail
    refine (CU.out _ _ R10).mono ?_
    rintro e w11 ⟨rfl, hb⟩
    have HB11 := Below.thn HB10 hb HB10s
    have HB11s := HB11.size
    clear hb HB10 HB10s R10
    go_wp2_with fail
    refine (hB1 _).mono ?_
    rintro e w6 ⟨rfl, hb⟩
    have HB6 := Below.thn (by (repeat (first | (with_reducible assumption) | (with_reducible exact Below.refl _ _) | with_reducible apply bl_drewN | with_reducible apply Below.drew | (with_reducible apply bl_alloc; focus (first | (simp; done) | (simp; omega) | omega)) | (with_reducible apply bl_set; focus (first | (simp; done) | (simp; omega) | omega))))) hb
    have HB6s := HB6.size
    clear hb
    go_upto_region 12 with fail
    refine wp_absQ (fun W => Below w.heap.size w W ∧ Blk W w6.heap.size #[.int .i64 s.w, .int .i64 s.h, .int .i64 s.x, .int .i64 s.y, .string (txt s.b)] 24) ⟨by (repeat (first | (with_reducible assumption) | (with_reducible exact Below.refl _ _) | with_reducible apply bl_drewN | with_reducible apply Below.drew | (with_reducible apply bl_alloc; focus (first | (simp; done) | (simp; omega) | omega)) | (with_reducible apply bl_set; focus (first | (simp; done) | (simp; omega) | omega)))), by (repeat (first | (with_reducible assumption) | (with_reducible apply Blk.new'; (first | (with_reducible rfl) | (simp; done))) | with_reducible apply Blk.alloc | with_reducible apply Blk.set | ((with_reducible apply Blk.set_ne); focus (first | (simp; done) | (simp; omega))) | with_reducible apply Blk.drewN | with_reducible apply Blk.drew))⟩ (fun W7 h7 => ?_)
    obtain ⟨HB7, B7⟩ := h7
    have HB7s := HB7.size
    go_wp2_with fail
    refine (hB2 _).mono ?_
    rintro e w8 ⟨b, off, c, rfl, R8, hb⟩
    have HB8 := Below.thn HB7 hb HB7s
    have B8 := B7.below hb
    have HB8s := HB8.size
    clear hb HB7 B7 HB7s HB6 HB6s
    go_upto_region 13 with fail
    refine wp_absQ (fun W => Below w.heap.size w W ∧ Blk W w6.heap.size #[.int .i64 s.w, .int .i64 s.h, .int .i64 s.x, .int .i64 s.y, .string (txt s.b)] 24 ∧ Blk W w8.heap.size #[.int .i64 s.w, .int .i64 s.h, .int .i64 s.x, .int .i64 s.y, .slice (some ⟨b, off, none⟩) s.h c] 41 ∧ RScrAt W (RV s.w s.h s.x s.y (.slice (some ⟨b, off, none⟩) s.h c)) s) ⟨by (repeat (first | (with_reducible assumption) | (with_reducible exact Below.refl _ _) | with_reducible apply bl_drewN | with_reducible apply Below.drew | (with_reducible apply bl_alloc; focus (first | (simp; done) | (simp; omega) | omega)) | (with_reducible apply bl_set; focus (first | (simp; done) | (simp; omega) | omega)))), by (repeat (first | (with_reducible assumption) | (with_reducible apply Blk.new'; (first | (with_reducible rfl) | (simp; done))) | with_reducible apply Blk.alloc | with_reducible apply Blk.set | ((with_reducible apply Blk.set_ne); focus (first | (simp; done) | (simp; omega))) | with_reducible apply Blk.drewN | with_reducible apply Blk.drew)), by (repeat (first | (with_reducible assumption) | (with_reducible apply Blk.new'; (first | (with_reducible rfl) | (simp; done))) | with_reducible apply Blk.alloc | with_reducible apply Blk.set | ((with_reducible apply Blk.set_ne); focus (first | (simp; done) | (simp; omega))) | with_reducible apply Blk.drewN | with_reducible apply Blk.drew)), R8.below (by (repeat (first | (with_reducible assumption) | (with_reducible exact Below.refl _ _) | with_reducible apply bl_drewN | with_reducible apply Below.drew | (with_reducible apply bl_alloc; focus (first | (simp; done) | (simp; omega) | omega)) | (with_reducible apply bl_set; focus (first | (simp; done) | (simp; omega) | omega)))))⟩ (fun W9 h9 => ?_)
    obtain ⟨HB9, B9, C9, R9⟩ := h9
    have HB9s := HB9.size
    have B9c := B9.cell; have B9l := B9.lt; have C9c := C9.cell; have C9l := C9.lt
    go_wp2_with fail
    refine (hB3 _ _ R9).mono ?_
    rintro e w10 ⟨rfl, hb⟩
    have HB10 := Below.thn HB9 hb HB9s
    have B10 := B9.below hb
    have HB10s := HB10.size
    have B10c := B10.cell; have B10l := B10.lt
    clear hb HB9 B9 C9 R9 HB9s B9c B9l C9c C9l
    go_wp2_with fail
    refine (hB4 _).mono ?_
    rintro e w11 ⟨rfl, hb⟩
    have HB11 := Below.thn HB10 hb HB10s
    go_wp2_with fail
    go_ret
    exact ⟨rfl, HB11⟩
end Go.Proofs.Ytgdmeaoghhkknaa
