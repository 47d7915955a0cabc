/- ScreenScrolls: the walk. -/
import Derived.Test.YtgdmeaoghhkknaaScrAwake
import Derived.Test.YtgdmeaoghhkknaaScrS
import Derived.Test.YtgdmeaoghhkknaaScr3
namespace Go.Proofs.Ytgdmeaoghhkknaa
open Go.RowKit

theorem put_vv (s : Scr) (o : ByteArray) (w : World) (hs : s.Ok) (ho : o.size ≤ 100000) (s' : Scr) (h : putL s o.data.toList = s') : Calls Try.prog 14 #[VV s.w s.h s.x s.y (txt s.b), .string o] w fun e w' => e = .returned (VV s'.w s'.h s'.x s'.y (txt s'.b)) ∧ Below w.heap.size w w' := by
  rw [← h]; exact put_any s o w hs ho
/-- The row that holds the line. -/
theorem row_line (T : Scr) (hT : T.Ok) (hx : T.x = 0) (l : ByteArray) (hl : l.size < T.w) :
    ((txt (T.b.take (T.y * T.w + T.x) ++ l.data.toList ++ T.b.drop (T.y * T.w + T.x + l.data.toList.length))).extract (T.y * T.w) ((T.y + 1) * T.w)).extract 0 l.size = l := by
  have hln : l.data.toList.length = l.size := rfl
  have h1 := at_lt hT
  have h2 : (T.y + 1) * T.w ≤ T.w * T.h := by rw [Nat.mul_comm T.w]; exact Nat.mul_le_mul_right _ hT.y
  rw [hx, Nat.add_zero]
  have e : (T.y + 1) * T.w = T.y * T.w + T.w := Nat.succ_mul _ _
  apply ba_ext
  rw [ba_extract, ba_extract]
  simp only [txt, List.drop_zero, Nat.sub_zero]
  have ht : (T.b.take (T.y * T.w)).length = T.y * T.w := by rw [List.length_take, hT.len]; omega
  rw [List.append_assoc, List.drop_append_of_le_length (by omega), List.drop_of_length_le (by omega), List.nil_append, List.take_take, List.take_append_of_le_length (by omega), List.take_of_length_le (by omega)]

set_option maxHeartbeats 4000000 in
set_option maxRecDepth 20000 in
theorem scrolls_out (cw ch : Int) (t l : ByteArray) (w : World) (h : cw < 1 ∨ 80 < cw ∨ ch < 1 ∨ 24 < ch) :
    Calls Try.prog 5 #[.int .i64 cw, .int .i64 ch, .string t, .string l] w fun e w' => e = .returned (.bool true) ∧ Below w.heap.size w w' := by
  have hN := fun W => new_bad cw ch W h
  have HNb := Lib.hid hN
  clear hN h
  go_enter Try.func5, Try.ntmps5
  go_wp2_with fail
  refine (awake11 _).mono ?_
  rintro e w1 ⟨rfl, hb1⟩
  have hbs1 := hb1.size
  go_wp2_with fail
  refine (HNb.out _).mono ?_
  rintro e w2 ⟨rfl, hb⟩
  have HB2 := Below.thn hb1 hb hbs1
  have HBs2 := HB2.size
  go_wp2
  go_ret
  exact ⟨rfl, by (repeat (first | (with_reducible assumption) | (with_reducible exact Below.refl _ _) | with_reducible apply bl_drewN | with_reducible apply Below.drew | (with_reducible apply bl_alloc; focus (first | (simp; done) | (simp; omega) | omega)) | (with_reducible apply bl_set; focus (first | (simp; done) | (simp; omega) | omega))))⟩
set_option maxHeartbeats 16000000 in
set_option maxRecDepth 20000 in
theorem scrolls_walk (cw ch : Nat) (t l : ByteArray) (w : World) (w1 : 1 ≤ cw) (w2 : cw ≤ 80) (h1 : 1 ≤ ch) (h2 : ch ≤ 24) :
    Calls Try.prog 5 #[.int .i64 cw, .int .i64 ch, .string t, .string l] w fun e w' => e = .returned (.bool true) ∧ Below w.heap.size w w' := by
  obtain ⟨n, hn⟩ : ∃ n, cw * ch = n := ⟨_, rfl⟩
  obtain ⟨bl, hbl⟩ : ∃ bl, txt (List.replicate n 32) = bl := ⟨_, rfl⟩
  have cN : ∀ W, Calls Try.prog 12 #[.int .i64 cw, .int .i64 ch] W fun e w' => e = .returned (.tuple #[VV cw ch 0 0 bl, .int .i64 0]) ∧ Below W.heap.size W w' := fun W => by
    have := new_any cw ch W w1 w2 h1 h2
    unfold newS at this
    rw [hn] at this
    rw [← hbl]; exact this
  have CN := Lib.hid cN
  have HBL := Lib.hid hbl
  have HN := Lib.hid hn
  clear cN hbl hn
  by_cases hlong : 500 < t.size
  · have g5 : (500 : Int) < t.size := by omega
    go_enter Try.func5, Try.ntmps5
    go_wp2_with fail
    refine (awake11 _).mono ?_
    rintro e w1 ⟨rfl, hb1⟩
    have hbs1 := hb1.size
    go_wp2_with fail
    refine (CN.out _).mono ?_
    rintro e w2 ⟨rfl, hb⟩
    have HB2 := Below.thn hb1 hb hbs1
    have HBs2 := HB2.size
    go_wp2
    go_ret
    exact ⟨rfl, by (repeat (first | (with_reducible assumption) | (with_reducible exact Below.refl _ _) | with_reducible apply bl_drewN | with_reducible apply Below.drew | (with_reducible apply bl_alloc; focus (first | (simp; done) | (simp; omega) | omega)) | (with_reducible apply bl_set; focus (first | (simp; done) | (simp; omega) | omega))))⟩
  have g5 : ¬ (500 : Int) < t.size := by omega
  by_cases hll : cw ≤ l.size
  · have g6 : (cw : Int) ≤ l.size := by omega
    go_enter Try.func5, Try.ntmps5
    go_wp2_with fail
    refine (awake11 _).mono ?_
    rintro e w1 ⟨rfl, hb1⟩
    have hbs1 := hb1.size
    go_wp2_with fail
    refine (CN.out _).mono ?_
    rintro e w2 ⟨rfl, hb⟩
    have HB2 := Below.thn hb1 hb hbs1
    have HBs2 := HB2.size
    go_wp2
    go_ret
    exact ⟨rfl, by (repeat (first | (with_reducible assumption) | (with_reducible exact Below.refl _ _) | with_reducible apply bl_drewN | with_reducible apply Below.drew | (with_reducible apply bl_alloc; focus (first | (simp; done) | (simp; omega) | omega)) | (with_reducible apply bl_set; focus (first | (simp; done) | (simp; omega) | omega))))⟩
  have g6 : ¬ (cw : Int) ≤ l.size := by omega
  go_enter Try.func5, Try.ntmps5
  go_wp2_with fail
  refine (awake11 _).mono ?_
  rintro e wa ⟨rfl, HBa⟩
  have HBas := HBa.size
  go_wp2_with fail
  refine (CN.out _).mono ?_
  rintro e wb ⟨rfl, hb⟩
  have HBb := Below.thn HBa hb HBas
  have HBbs := HBb.size
  clear hb
  go_wp2_with fail
  refine wp_abs1 (n := w.heap.size) (w := w) wb.heap.size 24 (by (repeat (first | (with_reducible assumption) | (with_reducible exact Below.refl _ _) | with_reducible apply bl_drewN | with_reducible apply Below.drew | (with_reducible apply bl_alloc; focus (first | (simp; done) | (simp; omega) | omega)) | (with_reducible apply bl_set; focus (first | (simp; done) | (simp; omega) | omega))))) (by (repeat (first | (with_reducible assumption) | (with_reducible apply Blk.new'; (first | (with_reducible rfl) | (simp; done))) | with_reducible apply Blk.alloc | with_reducible apply Blk.set | ((with_reducible apply Blk.set_ne); focus (first | (simp; done) | (simp; omega))) | with_reducible apply Blk.drewN | with_reducible apply Blk.drew))) (fun W1 HB1 B9 => ?_)
  have HB1s := HB1.size
  go_loopg [43] l.size (fun k t43 wr => ∃ j : Nat, t43 = .int .i64 j ∧ j + k = l.size ∧ (∀ i (hi : i < l.data.toList.length), i < j → plain l.data.toList[i]) ∧ wr = W1)
  case atStart => exact ⟨0, rfl, by omega, fun i hi h => by omega, rfl⟩
  case round =>
    obtain ⟨j, rfl, hj, hpl, rfl⟩ := hrel
    have HJ := Lib.hid hj
    have HPL := Lib.hid hpl
    cases gk with
    | zero =>
      have hj' : ¬ (j : Int) < l.size := by omega
      have hjt : j = l.size := by omega
      have hall : ∀ c ∈ l.data.toList, plain c := fun c hc => by
        obtain ⟨i, hi, rfl⟩ := List.mem_iff_getElem.1 hc
        exact hpl i hi (by rw [hjt]; exact hi)
      clear hj hpl HPL HJ
      have hok0 := newS_ok w1 w2 h1 h2
      obtain ⟨S, hS⟩ : ∃ S, putL (newS cw ch) t.data.toList = S := ⟨_, rfl⟩
      have hSok : S.Ok := by rw [← hS]; exact putL_ok hok0 _
      have hSlow : Low S := by rw [← hS]; exact low_putL hok0 (low_new _ _) _
      have hSw : S.w = cw ∧ S.h = ch := by rw [← hS]; exact putL_w _ _
      have cP : ∀ W, Calls Try.prog 14 #[VV cw ch 0 0 bl, .string t] W fun e w' => e = .returned (VV cw ch S.x S.y (txt S.b)) ∧ Below W.heap.size W w' := fun W => by
        have := put_vv (newS cw ch) t W hok0 (by omega) S hS
        rw [hSw.1, hSw.2] at this
        rw [← HBL.out, ← HN.out]; exact this
      have cNL : ∀ (j : Nat) W, Calls Try.prog 14 #[VV cw ch (nls S j).x (nls S j).y (txt (nls S j).b), .string ⟨#[10]⟩] W fun e w' => e = .returned (VV cw ch (nls S (j + 1)).x (nls S (j + 1)).y (txt (nls S (j + 1)).b)) ∧ Below W.heap.size W w' := fun j W => by
        have := put_vv (nls S j) ⟨#[10]⟩ W (nls_ok hSok j) (by show 1 ≤ 100000; omega) (nls S (j + 1)) rfl
        rw [(nls_w S j).1, (nls_w S j).2, (nls_w S (j + 1)).1, (nls_w S (j + 1)).2, hSw.1, hSw.2] at this
        exact this
      have hT := nl_ok hSok
      have hTx := nl_x S
      have hTw : (nl S).w = cw ∧ (nl S).h = ch := ⟨(nl_w S).trans hSw.1, (nl_h S).trans hSw.2⟩
      have hlT : l.size < (nl S).w := by rw [hTw.1]; omega
      have hlp := line_put l.data.toList hall (nl S) hT (by rw [hTx]; show 0 + l.size < _; omega)
      have hrow := row_line (nl S) hT hTx l hlT
      rw [hTw.1] at hrow
      obtain ⟨bt, hbt⟩ : ∃ bt, txt ((nl S).b.take ((nl S).y * cw + (nl S).x) ++ l.data.toList ++ (nl S).b.drop ((nl S).y * cw + (nl S).x + l.data.toList.length)) = bt := ⟨_, rfl⟩
      rw [hbt] at hrow
      have cLL : ∀ W, Calls Try.prog 14 #[VV cw ch S.x S.y (txt S.b), .string (⟨#[10]⟩ ++ l)] W fun e w' => e = .returned (VV cw ch l.size (nl S).y bt) ∧ Below W.heap.size W w' := fun W => by
        have := put_vv S (⟨#[10]⟩ ++ l) W hSok (by rw [sz_app]; show 1 + l.size ≤ _; omega) (putL (nl S) l.data.toList) (by
          rw [ba_app, putL_app]; rfl)
        rw [hSw.1, hSw.2, hlp] at this
        simp only [hTw.1, hTw.2, hTx, Nat.zero_add] at this hbt
        rw [hbt] at this
        exact this
      have hbts : bt.size = cw * ch := by
        have h := putL_ok hT l.data.toList
        have hw := putL_w (nl S) l.data.toList
        have hlen := h.len
        rw [hw.1, hw.2, hTw.1, hTw.2, hlp] at hlen
        simp only [hTw.1] at hlen
        rw [← hbt, txt_size]; exact hlen
      have hend : txt (nls S ch).b = bl := by
        have := nls_all hSok hSlow
        rw [hSw.1, hSw.2, HN.out] at this
        rw [this]; exact HBL.out
      have hyl : (nl S).y < ch := by rw [← hTw.2]; exact hT.y
      have radd : ∀ W, (Op.stringOp .add ⟨#[10]⟩ l).run Try.prog W = .ok (.string (⟨#[10]⟩ ++ l)) W := fun W => run_string_add_sum W _ _ (by show 1 + l.size ≤ _; omega)
      have cNL1 := cNL 0
      have e1 : nls S 1 = nl S := rfl
      have e0 : nls S 0 = S := rfl
      rw [e1, e0] at cNL1
      obtain ⟨y1, hy1⟩ : ∃ y1, (nl S).y = y1 := ⟨_, rfl⟩
      obtain ⟨x1, hx1⟩ : ∃ x1, (nl S).x = x1 := ⟨_, rfl⟩
      obtain ⟨bn, hbn⟩ : ∃ bn, txt (nl S).b = bn := ⟨_, rfl⟩
      rw [hy1] at hrow cLL hyl
      rw [hy1, hx1, hbn] at cNL1
      have CP := Lib.hid cP; have CNL := Lib.hid cNL; have CLL := Lib.hid cLL; have CNL1 := Lib.hid cNL1
      have HROW := Lib.hid hrow; have HBTS := Lib.hid hbts; have HEND := Lib.hid hend
      clear cP cNL cLL cNL1 hrow hbts hend hlp hT hTx hTw hlT hbt hSlow hok0 hall e1 e0 hy1 hx1 hbn hS
      have B9c := B9.cell; have B9l := B9.lt
      go_wp2_with fail
      refine (CP.out _).mono ?_
      rintro e w3 ⟨rfl, hb⟩
      have HB : Below w.heap.size w w3 := Below.thn (by (repeat (first | (with_reducible assumption) | (with_reducible exact Below.refl _ _) | with_reducible apply bl_drewN | with_reducible apply Below.drew | (with_reducible apply bl_alloc; focus (first | (simp; done) | (simp; omega) | omega)) | (with_reducible apply bl_set; focus (first | (simp; done) | (simp; omega) | omega))))) hb
      have HBs := HB.size
      have B9 := Blk.below (b := wb.heap.size) (t := 24) (by (repeat (first | (with_reducible assumption) | (with_reducible apply Blk.new'; (first | (with_reducible rfl) | (simp; done))) | with_reducible apply Blk.alloc | with_reducible apply Blk.set | ((with_reducible apply Blk.set_ne); focus (first | (simp; done) | (simp; omega))) | with_reducible apply Blk.drewN | with_reducible apply Blk.drew))) hb
      have B9c := B9.cell; have B9f := B9.frozen; have B9l := B9.lt
      clear hb
      go_wp2_with fail
      refine wp_abs3 (n := w.heap.size) (w := w) wb.heap.size 24 w3.heap.size 24 (w3.heap.size + 1) 24 (by (repeat (first | (with_reducible assumption) | (with_reducible exact Below.refl _ _) | with_reducible apply bl_drewN | with_reducible apply Below.drew | (with_reducible apply bl_alloc; focus (first | (simp; done) | (simp; omega) | omega)) | (with_reducible apply bl_set; focus (first | (simp; done) | (simp; omega) | omega))))) (by (repeat (first | (with_reducible assumption) | (with_reducible apply Blk.new'; (first | (with_reducible rfl) | (simp; done))) | with_reducible apply Blk.alloc | with_reducible apply Blk.set | ((with_reducible apply Blk.set_ne); focus (first | (simp; done) | (simp; omega))) | with_reducible apply Blk.drewN | with_reducible apply Blk.drew))) (by (repeat (first | (with_reducible assumption) | (with_reducible apply Blk.new'; (first | (with_reducible rfl) | (simp; done))) | with_reducible apply Blk.alloc | with_reducible apply Blk.set | ((with_reducible apply Blk.set_ne); focus (first | (simp; done) | (simp; omega))) | with_reducible apply Blk.drewN | with_reducible apply Blk.drew))) (by (repeat (first | (with_reducible assumption) | (with_reducible apply Blk.new'; (first | (with_reducible rfl) | (simp; done))) | with_reducible apply Blk.alloc | with_reducible apply Blk.set | ((with_reducible apply Blk.set_ne); focus (first | (simp; done) | (simp; omega))) | with_reducible apply Blk.drewN | with_reducible apply Blk.drew))) (fun W4 HB4 Q9 Q12 Q13 => ?_)
      have HB4s := HB4.size
      have hwb : w.heap.size ≤ wb.heap.size := HBbs
      have hD0 : wb.heap.size < w3.heap.size := by omega
      obtain ⟨b9, hb9⟩ : ∃ b, wb.heap.size = b := ⟨_, rfl⟩
      obtain ⟨b12, hb12⟩ : ∃ b, w3.heap.size = b := ⟨_, rfl⟩
      obtain ⟨D, hD⟩ : ∃ b, b12 + 1 = b := ⟨_, rfl⟩
      rw [hb12, hD] at Q13
      rw [hb12] at Q12 hD0
      rw [hb9] at Q9 hD0 hwb
      rw [hb9, hb12, hD]
      have n1 : b9 ≠ D := by omega
      have n2 : b12 ≠ D := by omega
      have n3 : w.heap.size ≤ D := by omega
      clear hb9 hb12 hD B9 B9c B9l HB HBs B9f
      go_loopg [62] ch (fun k t62 wr => ∃ j : Nat, t62 = .int .i64 j ∧ j + k = ch ∧ Below w.heap.size w wr ∧ Blk wr b9 #[.int .i64 cw, .int .i64 ch, .int .i64 0, .int .i64 0, .string bl] 24 ∧ Blk wr b12 #[.int .i64 cw, .int .i64 ch, .int .i64 S.x, .int .i64 S.y, .string (txt S.b)] 24 ∧ Blk wr D #[.int .i64 cw, .int .i64 ch, .int .i64 (nls S j).x, .int .i64 (nls S j).y, .string (txt (nls S j).b)] 24)
      case atStart => exact ⟨0, rfl, by omega, HB4, Q9, Q12, Q13⟩
      case round =>
        clear Q9 Q12 Q13 HB4 HB4s
        obtain ⟨j, rfl, hj, HB, Q9, Q12, Q13⟩ := hrel
        have HBs := HB.size
        have HJ := Lib.hid hj
        have Q13c := Q13.cell; have Q13f := Q13.frozen; have Q13l := Q13.lt
        cases gk with
        | zero =>
          have hj' : ¬ (j : Int) < ch := by omega
          obtain rfl : j = ch := by omega
          clear hj
          rw [HEND.out] at Q13
          clear Q13c Q13f Q13l
          have Q12c := Q12.cell; have Q12l := Q12.lt; have Q9l := Q9.lt; have Q13l := Q13.lt
          go_wp2_with fail
          refine (CNL1.out _).mono ?_
          rintro e w5 ⟨rfl, hb⟩
          have HB : Below w.heap.size w w5 := Below.thn (by (repeat (first | (with_reducible assumption) | (with_reducible exact Below.refl _ _) | with_reducible apply bl_drewN | with_reducible apply Below.drew | (with_reducible apply bl_alloc; focus (first | (simp; done) | (simp; omega) | omega)) | (with_reducible apply bl_set; focus (first | (simp; done) | (simp; omega) | omega))))) hb
          have HBs := HB.size
          have Q9 := Blk.below (b := b9) (t := 24) (by (repeat (first | (with_reducible assumption) | (with_reducible apply Blk.new'; (first | (with_reducible rfl) | (simp; done))) | with_reducible apply Blk.alloc | with_reducible apply Blk.set | ((with_reducible apply Blk.set_ne); focus (first | (simp; done) | (simp; omega))) | with_reducible apply Blk.drewN | with_reducible apply Blk.drew))) hb
          have Q9c := Q9.cell; have Q9f := Q9.frozen; have Q9l := Q9.lt
          have Q12 := Blk.below (b := b12) (t := 24) (by (repeat (first | (with_reducible assumption) | (with_reducible apply Blk.new'; (first | (with_reducible rfl) | (simp; done))) | with_reducible apply Blk.alloc | with_reducible apply Blk.set | ((with_reducible apply Blk.set_ne); focus (first | (simp; done) | (simp; omega))) | with_reducible apply Blk.drewN | with_reducible apply Blk.drew))) hb
          have Q12c := Q12.cell; have Q12f := Q12.frozen; have Q12l := Q12.lt
          have Q13 := Blk.below (b := D) (t := 24) (by (repeat (first | (with_reducible assumption) | (with_reducible apply Blk.new'; (first | (with_reducible rfl) | (simp; done))) | with_reducible apply Blk.alloc | with_reducible apply Blk.set | ((with_reducible apply Blk.set_ne); focus (first | (simp; done) | (simp; omega))) | with_reducible apply Blk.drewN | with_reducible apply Blk.drew))) hb
          have Q13c := Q13.cell; have Q13f := Q13.frozen; have Q13l := Q13.lt
          clear hb
          go_wp2_with fail
          refine (cursor_any _ _ _ _ _ _).mono ?_
          rintro e w6 ⟨rfl, hb⟩
          have HB : Below w.heap.size w w6 := Below.thn (by (repeat (first | (with_reducible assumption) | (with_reducible exact Below.refl _ _) | with_reducible apply bl_drewN | with_reducible apply Below.drew | (with_reducible apply bl_alloc; focus (first | (simp; done) | (simp; omega) | omega)) | (with_reducible apply bl_set; focus (first | (simp; done) | (simp; omega) | omega))))) hb
          have HBs := HB.size
          have Q9 := Blk.below (b := b9) (t := 24) (by (repeat (first | (with_reducible assumption) | (with_reducible apply Blk.new'; (first | (with_reducible rfl) | (simp; done))) | with_reducible apply Blk.alloc | with_reducible apply Blk.set | ((with_reducible apply Blk.set_ne); focus (first | (simp; done) | (simp; omega))) | with_reducible apply Blk.drewN | with_reducible apply Blk.drew))) hb
          have Q9c := Q9.cell; have Q9f := Q9.frozen; have Q9l := Q9.lt
          have Q12 := Blk.below (b := b12) (t := 24) (by (repeat (first | (with_reducible assumption) | (with_reducible apply Blk.new'; (first | (with_reducible rfl) | (simp; done))) | with_reducible apply Blk.alloc | with_reducible apply Blk.set | ((with_reducible apply Blk.set_ne); focus (first | (simp; done) | (simp; omega))) | with_reducible apply Blk.drewN | with_reducible apply Blk.drew))) hb
          have Q12c := Q12.cell; have Q12f := Q12.frozen; have Q12l := Q12.lt
          have Q13 := Blk.below (b := D) (t := 24) (by (repeat (first | (with_reducible assumption) | (with_reducible apply Blk.new'; (first | (with_reducible rfl) | (simp; done))) | with_reducible apply Blk.alloc | with_reducible apply Blk.set | ((with_reducible apply Blk.set_ne); focus (first | (simp; done) | (simp; omega))) | with_reducible apply Blk.drewN | with_reducible apply Blk.drew))) hb
          have Q13c := Q13.cell; have Q13f := Q13.frozen; have Q13l := Q13.lt
          clear hb
          go_wp2_with fail
          refine (CLL.out _).mono ?_
          rintro e w7 ⟨rfl, hb⟩
          have HB : Below w.heap.size w w7 := Below.thn (by (repeat (first | (with_reducible assumption) | (with_reducible exact Below.refl _ _) | with_reducible apply bl_drewN | with_reducible apply Below.drew | (with_reducible apply bl_alloc; focus (first | (simp; done) | (simp; omega) | omega)) | (with_reducible apply bl_set; focus (first | (simp; done) | (simp; omega) | omega))))) hb
          have HBs := HB.size
          have Q9 := Blk.below (b := b9) (t := 24) (by (repeat (first | (with_reducible assumption) | (with_reducible apply Blk.new'; (first | (with_reducible rfl) | (simp; done))) | with_reducible apply Blk.alloc | with_reducible apply Blk.set | ((with_reducible apply Blk.set_ne); focus (first | (simp; done) | (simp; omega))) | with_reducible apply Blk.drewN | with_reducible apply Blk.drew))) hb
          have Q9c := Q9.cell; have Q9f := Q9.frozen; have Q9l := Q9.lt
          have Q12 := Blk.below (b := b12) (t := 24) (by (repeat (first | (with_reducible assumption) | (with_reducible apply Blk.new'; (first | (with_reducible rfl) | (simp; done))) | with_reducible apply Blk.alloc | with_reducible apply Blk.set | ((with_reducible apply Blk.set_ne); focus (first | (simp; done) | (simp; omega))) | with_reducible apply Blk.drewN | with_reducible apply Blk.drew))) hb
          have Q12c := Q12.cell; have Q12f := Q12.frozen; have Q12l := Q12.lt
          have Q13 := Blk.below (b := D) (t := 24) (by (repeat (first | (with_reducible assumption) | (with_reducible apply Blk.new'; (first | (with_reducible rfl) | (simp; done))) | with_reducible apply Blk.alloc | with_reducible apply Blk.set | ((with_reducible apply Blk.set_ne); focus (first | (simp; done) | (simp; omega))) | with_reducible apply Blk.drewN | with_reducible apply Blk.drew))) hb
          have Q13c := Q13.cell; have Q13f := Q13.frozen; have Q13l := Q13.lt
          clear hb
          go_wp2_with fail
          refine (rows_any _ _ _ _ bt _ HBTS.out w2 h2).mono ?_
          rintro e w8 ⟨vr, rfl, hr, hb⟩
          obtain ⟨g, c, rfl, hg0, hgl, hgc⟩ := own_reads hr h1
          have Q16 := Blk.below (b := w7.heap.size) (t := 24) (by (repeat (first | (with_reducible assumption) | (with_reducible apply Blk.new'; (first | (with_reducible rfl) | (simp; done))) | with_reducible apply Blk.alloc | with_reducible apply Blk.set | ((with_reducible apply Blk.set_ne); focus (first | (simp; done) | (simp; omega))) | with_reducible apply Blk.drewN | with_reducible apply Blk.drew))) hb
          have Q9 := Blk.below (b := b9) (t := 24) (by (repeat (first | (with_reducible assumption) | (with_reducible apply Blk.new'; (first | (with_reducible rfl) | (simp; done))) | with_reducible apply Blk.alloc | with_reducible apply Blk.set | ((with_reducible apply Blk.set_ne); focus (first | (simp; done) | (simp; omega))) | with_reducible apply Blk.drewN | with_reducible apply Blk.drew))) hb
          have Q13 := Blk.below (b := D) (t := 24) (by (repeat (first | (with_reducible assumption) | (with_reducible apply Blk.new'; (first | (with_reducible rfl) | (simp; done))) | with_reducible apply Blk.alloc | with_reducible apply Blk.set | ((with_reducible apply Blk.set_ne); focus (first | (simp; done) | (simp; omega))) | with_reducible apply Blk.drewN | with_reducible apply Blk.drew))) hb
          have HB8 : Below w.heap.size w w8 := Below.thn (by (repeat (first | (with_reducible assumption) | (with_reducible exact Below.refl _ _) | with_reducible apply bl_drewN | with_reducible apply Below.drew | (with_reducible apply bl_alloc; focus (first | (simp; done) | (simp; omega) | omega)) | (with_reducible apply bl_set; focus (first | (simp; done) | (simp; omega) | omega))))) hb
          have HB8s := HB8.size
          obtain ⟨ROW, hROW⟩ : ∃ r, bt.extract (y1 * cw) ((y1 + 1) * cw) = r := ⟨_, rfl⟩
          have hre := HROW.out
          rw [hROW] at hre
          have hcell : w8.cell? ⟨g, y1, none⟩ = some (.string ROW) := by
            rw [hgc y1 (by omega), ← hROW]
            simp [strs, rowsL, hyl]
          have hyi : (y1 : Int) < j := by omega
          have hls : (l.size : Int) ≤ ROW.size := by
            have := congrArg ByteArray.size hre
            rw [ByteArray.size_extract] at this
            omega
          clear hr hgc hb hROW HROW Q12 Q12c Q12l Q9l Q13l Q9c Q9f Q13c Q13f Q12f HB HBs
          have Q16c := Q16.cell; have Q16l := Q16.lt; have Q9l := Q9.lt; have Q13l := Q13.lt
          go_wp2_with fail
          refine (cursor_any _ _ _ _ _ _).mono ?_
          rintro e w9 ⟨rfl, hb⟩
          have HB : Below w.heap.size w w9 := Below.thn (by (repeat (first | (with_reducible assumption) | (with_reducible exact Below.refl _ _) | with_reducible apply bl_drewN | with_reducible apply Below.drew | (with_reducible apply bl_alloc; focus (first | (simp; done) | (simp; omega) | omega)) | (with_reducible apply bl_set; focus (first | (simp; done) | (simp; omega) | omega))))) hb
          have HBs := HB.size
          have Q9 := Blk.below (b := b9) (t := 24) (by (repeat (first | (with_reducible assumption) | (with_reducible apply Blk.new'; (first | (with_reducible rfl) | (simp; done))) | with_reducible apply Blk.alloc | with_reducible apply Blk.set | ((with_reducible apply Blk.set_ne); focus (first | (simp; done) | (simp; omega))) | with_reducible apply Blk.drewN | with_reducible apply Blk.drew))) hb
          have Q9c := Q9.cell; have Q9f := Q9.frozen; have Q9l := Q9.lt
          have Q13 := Blk.below (b := D) (t := 24) (by (repeat (first | (with_reducible assumption) | (with_reducible apply Blk.new'; (first | (with_reducible rfl) | (simp; done))) | with_reducible apply Blk.alloc | with_reducible apply Blk.set | ((with_reducible apply Blk.set_ne); focus (first | (simp; done) | (simp; omega))) | with_reducible apply Blk.drewN | with_reducible apply Blk.drew))) hb
          have Q13c := Q13.cell; have Q13f := Q13.frozen; have Q13l := Q13.lt
          clear hb
          go_wp2_with fail
          refine wp_abs2 (b9) 24 (D) 24 (n := w.heap.size) (w := w) (by (repeat (first | (with_reducible assumption) | (with_reducible exact Below.refl _ _) | with_reducible apply bl_drewN | with_reducible apply Below.drew | (with_reducible apply bl_alloc; focus (first | (simp; done) | (simp; omega) | omega)) | (with_reducible apply bl_set; focus (first | (simp; done) | (simp; omega) | omega))))) (by (repeat (first | (with_reducible assumption) | (with_reducible apply Blk.new'; (first | (with_reducible rfl) | (simp; done))) | with_reducible apply Blk.alloc | with_reducible apply Blk.set | ((with_reducible apply Blk.set_ne); focus (first | (simp; done) | (simp; omega))) | with_reducible apply Blk.drewN | with_reducible apply Blk.drew))) (by (repeat (first | (with_reducible assumption) | (with_reducible apply Blk.new'; (first | (with_reducible rfl) | (simp; done))) | with_reducible apply Blk.alloc | with_reducible apply Blk.set | ((with_reducible apply Blk.set_ne); focus (first | (simp; done) | (simp; omega))) | with_reducible apply Blk.drewN | with_reducible apply Blk.drew))) (fun W0 HB Q9 Q13 => ?_)
          have HBs := HB.size
          have Q9c := Q9.cell; have Q9f := Q9.frozen; have Q9l := Q9.lt
          have Q13c := Q13.cell; have Q13f := Q13.frozen; have Q13l := Q13.lt
          refine wp_region_gr_tail 24 (by kernel_rfl) (by kernel_rfl) ?_
          simp only [List.take_succ_cons, List.take_zero, List.drop_succ_cons, List.drop_zero]
          repeat (first
            | go_big_quiet_skip
            | ((refine BigFrame.wpQuiet_want rfl (fun K hK => quiet_mk ?_)); apply Exists.intro; refine ⟨fun wq hq => ?_, hK _ ?_⟩
               · have f0 := hq.blk Q9; have f1 := hq.blk Q13; go_simp; (try simp only [↓IntWalk.iteOmega]); (try go_bits)
                 first | done | rfl | exact ⟨rfl, rfl⟩ | (go_at_call 13; refine (cells_any _ _ _ _ _ _).mono ?_; rintro e wr ⟨rfl, hbr⟩; exact ⟨rfl, hq.next hbr⟩)
               clear hK K; (try simp only [Act.put, List.setIfInBounds_toArray, List.set_cons_zero, List.set_cons_succ])))
          refine wpQuiet_nil ?_
          intro wA hw1
          have HB : Below w.heap.size w wA := Below.thn HB hw1.out HB.size
          have HBs := HB.size
          have Q9 := Q9.gr hw1; clear Q9c Q9f Q9l; have Q9c := Q9.cell; have Q9f := Q9.frozen; have Q9l := Q9.lt
          have Q13 := Q13.gr hw1; clear Q13c Q13f Q13l; have Q13c := Q13.cell; have Q13f := Q13.frozen; have Q13l := Q13.lt
          clear hw1
          go_wp2_with fail
          go_ret
          exact ⟨rfl, HB⟩
        | succ k =>
          have hj' : (j : Int) < ch := by omega
          clear hj
          go_wp2_with fail
          refine (CNL.out j _).mono ?_
          rintro e w5 ⟨rfl, hb⟩
          have Q9 := Q9.below hb
          have Q12 := Q12.below hb
          have Q13 := Q13.below hb
          have HB := Below.thn HB hb HBs
          clear hb Q13c Q13f Q13l
          have Q13c := Q13.cell; have Q13f := Q13.frozen
          go_wp2_with fail
          go_roundg k
          case rel => exact ⟨j + 1, by simp, by have := HJ.out; omega, by (repeat (first | (with_reducible assumption) | (with_reducible exact Below.refl _ _) | with_reducible apply bl_drewN | with_reducible apply Below.drew | (with_reducible apply bl_alloc; focus (first | (simp; done) | (simp; omega) | omega)) | (with_reducible apply bl_set; focus (first | (simp; done) | (simp; omega) | omega)))), by (repeat (first | (with_reducible assumption) | (with_reducible apply Blk.new'; (first | (with_reducible rfl) | (simp; done))) | with_reducible apply Blk.alloc | with_reducible apply Blk.set | ((with_reducible apply Blk.set_ne); focus (first | (simp; done) | (simp; omega))) | with_reducible apply Blk.drewN | with_reducible apply Blk.drew)), by (repeat (first | (with_reducible assumption) | (with_reducible apply Blk.new'; (first | (with_reducible rfl) | (simp; done))) | with_reducible apply Blk.alloc | with_reducible apply Blk.set | ((with_reducible apply Blk.set_ne); focus (first | (simp; done) | (simp; omega))) | with_reducible apply Blk.drewN | with_reducible apply Blk.drew)), (Q13.set.set.set.set.set.conv rfl)⟩
          case measure => omega
    | succ k =>
      have hj' : (j : Int) < l.size := by omega
      have hjl : j < l.size := by omega
      obtain ⟨c, hc⟩ : ∃ c, l[j] = c := ⟨_, rfl⟩
      have HC := Lib.hid hc
      clear hj hpl
      by_cases hp : plain c
      · have hp1 : ¬ (c.toNat : Int) < 32 := by have := hp.1; omega
        have hp2 : ¬ (126 : Int) < c.toNat := by have := hp.2; omega
        have HP := Lib.hid hp
        clear hp
        go_wp2_with fail
        go_roundg k
        case rel =>
          refine ⟨j + 1, by simp, by have := HJ.out; omega, fun i hi hij => ?_, rfl⟩
          by_cases e : i = j
          · subst e
            have h2 : l.data.toList[i] = c := HC.out
            rw [h2]; exact HP.out
          · exact HPL.out i hi (by omega)
        case measure => omega
      · by_cases hp1 : c.toNat < 32
        · have hp1i : (c.toNat : Int) < 32 := by omega
          clear hp
          go_wp2
          go_ret
          exact ⟨rfl, HB1⟩
        · have hp1i : ¬ (c.toNat : Int) < 32 := by omega
          have hp2i : (126 : Int) < c.toNat := by unfold plain at hp; omega
          clear hp
          go_wp2
          go_ret
          exact ⟨rfl, HB1⟩
end Go.Proofs.Ytgdmeaoghhkknaa
