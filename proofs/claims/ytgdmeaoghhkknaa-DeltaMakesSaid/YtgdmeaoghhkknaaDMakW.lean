/- DeltaMakes: the walk. -/
import Derived.Test.YtgdmeaoghhkknaaRDel2
namespace Go.Proofs.Ytgdmeaoghhkknaa
open Go.RowKit

theorem rdo_any (s : Scr) (v : Value) (d : ByteArray) (w : World) (R : RScrAt w v s) (hs : s.Ok) (hd : d.size ≤ 10000) :
    Calls Try.prog 32 #[v, .string d] w fun e w' => RDPost s d w e w' := by
  by_cases h1 : d.data.toList.head? = some 102
  · cases hl : d.data.toList with
    | nil => rw [hl] at h1; cases h1
    | cons c r =>
      rw [hl] at h1
      obtain rfl : c = 102 := Option.some.inj h1
      exact rdo_whole s v d r w R hs hd hl
  · by_cases h2 : d.size < 3 ∨ d.data.toList.head? ≠ some 100
    · exact rdo_no s v d w R h1 h2
    · have h3 : 3 ≤ d.data.toList.length := by show 3 ≤ d.size; omega
      have h4 : d.data.toList.head? = some 100 := by
        by_cases h5 : d.data.toList.head? = some 100
        · exact h5
        · exact absurd (Or.inr h5) h2
      match hl : d.data.toList, h3, h4 with
      | c :: x :: y :: r, _, h4 =>
        obtain rfl : c = 100 := Option.some.inj h4
        exact rdo_parts s v d w R hs hd x y r hl
theorem chkL_back (s : Scr) (d t : List UInt8) (b : Scr) (h : chkL s d t = some b) : ofL s b = d ∧ b.Ok := by
  unfold chkL at h
  cases hp : parseS ⟨t.toArray⟩ with
  | none => rw [hp] at h; cases h
  | some b' =>
    rw [hp] at h
    simp only at h
    split at h
    · rename_i h5
      obtain rfl := Option.some.inj h
      exact ⟨h5, parse_okS _ _ hp⟩
    · cases h
theorem doL_back (s : Scr) (d : List UInt8) (b : Scr) (h : doL s d = some b) : ofL s b = d ∧ b.Ok := by
  cases d with
  | nil => cases h
  | cons c r =>
    unfold doL at h
    simp only at h
    split at h
    · exact chkL_back _ _ _ _ h
    · split at h
      · rename_i x y r' h9
        cases ha : appD s.w s.h s.b r' with
        | none => rw [ha] at h; cases h
        | some cells => rw [ha] at h; exact chkL_back _ _ _ _ h
      · cases h
set_option maxHeartbeats 4000000 in
set_option maxRecDepth 20000 in
theorem dsize_any (sw sh sx sy tw th tx ty : Int) (st tt d : ByteArray) (w : World) (hO : ∀ W, Calls Try.prog 27 #[VV sw sh sx sy st, VV tw th tx ty tt] W fun e w' => e = .returned (.string d) ∧ Below W.heap.size W w') :
    Calls Try.prog 31 #[VV sw sh sx sy st, VV tw th tx ty tt] w fun e w' => e = .returned (.int .i64 d.size) ∧ Below w.heap.size w w' := by
  have HO := Lib.hid hO
  clear hO
  go_enter Try.func31, Try.ntmps31
  go_wp2_with fail
  refine (HO.out _).mono ?_
  rintro e wa ⟨rfl, hb⟩
  have HB : Below w.heap.size w wa := Below.thn (by (repeat (first | (with_reducible assumption) | (with_reducible exact Below.refl _ _) | with_reducible apply bl_drewN | with_reducible apply Below.drew | (with_reducible apply bl_alloc; focus (first | (simp; done) | (simp; omega) | omega)) | (with_reducible apply bl_set; focus (first | (simp; done) | (simp; omega) | omega))))) hb
  go_wp2_with fail
  go_ret
  exact ⟨rfl, HB⟩
/-- What any text makes of a screen, by both. -/
def BothD (S : Scr) (d : ByteArray) : Prop :=
  ((∀ W, Calls Try.prog 28 #[VV S.w S.h S.x S.y (txt S.b), .string d] W fun e w' => e = .returned (.tuple #[VV 0 0 0 0 ⟨#[]⟩, .int .i64 4]) ∧ Below W.heap.size W w') ∧
   (∀ W v, RScrAt W v S → Calls Try.prog 32 #[v, .string d] W fun e w' => e = .returned (.tuple #[RV 0 0 0 0 (.slice none 0 0), .bool false]) ∧ Below W.heap.size W w')) ∨
  (∃ b : Scr, (∀ W, Calls Try.prog 28 #[VV S.w S.h S.x S.y (txt S.b), .string d] W fun e w' => e = .returned (.tuple #[VV b.w b.h b.x b.y (txt b.b), .int .i64 0]) ∧ Below W.heap.size W w') ∧
   (∀ W v, RScrAt W v S → Calls Try.prog 32 #[v, .string d] W fun e w' => ∃ bb off c, e = .returned (.tuple #[RV b.w b.h b.x b.y (.slice (some ⟨bb, off, none⟩) b.h c), .bool true]) ∧ RScrAt w' (RV b.w b.h b.x b.y (.slice (some ⟨bb, off, none⟩) b.h c)) b ∧ Below W.heap.size W w') ∧
   (∀ W v, RScrAt W v b → Calls Try.prog 20 #[VV b.w b.h b.x b.y (txt b.b), v] W fun e w' => e = .returned (.bool true) ∧ Below W.heap.size W w') ∧
   (∀ W, Calls Try.prog 27 #[VV S.w S.h S.x S.y (txt S.b), VV b.w b.h b.x b.y (txt b.b)] W fun e w' => e = .returned (.string d) ∧ Below W.heap.size W w'))
theorem bothD_any (S : Scr) (d : ByteArray) (hs : S.Ok) (hd : d.size ≤ 10000) : BothD S d := by
  have h1 := fun W => do_any S d W hs hd
  have h2 := fun W v (h : RScrAt W v S) => rdo_any S v d W h hs hd
  unfold RDPost at h2
  cases hp : doL S d.data.toList with
  | none =>
    rw [hp] at h1
    refine .inl ⟨h1, fun W v h => (h2 W v h).mono ?_⟩
    rintro e w' (⟨_, h5, h6⟩ | ⟨s, v, h5, _⟩)
    · exact ⟨h5, h6⟩
    · rw [hp] at h5; cases h5
  | some b =>
    rw [hp] at h1
    obtain ⟨hback, hbok⟩ := doL_back _ _ _ hp
    refine .inr ⟨b, h1, fun W v h => (h2 W v h).mono ?_, fun W v h => is_any b v W h hbok, fun W => by have := of_any S b W hs hbok; rw [hback, txt_list] at this; exact this⟩
    rintro e w' (⟨h5, _⟩ | ⟨s', v, h5, h6, h7, h8⟩)
    · rw [hp] at h5; cases h5
    · rw [hp] at h5
      obtain rfl := Option.some.inj h5
      obtain ⟨bb, off, c, rfl, h9⟩ := h7
      exact ⟨bb, off, c, h6, ⟨bb, off, c, rfl, h9⟩, h8⟩

set_option maxHeartbeats 4000000 in
set_option maxRecDepth 20000 in
theorem dmakes_long (a b c d : Int) (o q t : ByteArray) (w : World) (h : 1000 < o.size ∨ 1000 < q.size ∨ 2000 < t.size) :
    Calls Try.prog 10 #[.agg #[.int .u8 a, .int .u8 b, .string o], .agg #[.int .u8 c, .int .u8 d, .string q], .string t] w fun e w' => e = .returned (.bool true) ∧ Below w.heap.size w w' := by
  by_cases hm : (1000 : Int) < max (o.size : Int) q.size
  · clear h
    go_enter Try.func10, Try.ntmps10
    go_wp2_with fail
    refine (awake12 _).mono ?_
    rintro e w1 ⟨rfl, hb⟩
    have HB1 : Below w.heap.size w w1 := Below.thn (by (repeat (first | (with_reducible assumption) | (with_reducible exact Below.refl _ _) | with_reducible apply bl_drewN | with_reducible apply Below.drew | (with_reducible apply bl_alloc; focus (first | (simp; done) | (simp; omega) | omega)) | (with_reducible apply bl_set; focus (first | (simp; done) | (simp; omega) | omega))))) hb
    have B1 := Blk.below (b := w.heap.size) (t := 51) (by (repeat (first | (with_reducible assumption) | (with_reducible apply Blk.new'; (first | (with_reducible rfl) | (simp; done))) | with_reducible apply Blk.alloc | with_reducible apply Blk.set | ((with_reducible apply Blk.set_ne); focus (first | (simp; done) | (simp; omega))) | with_reducible apply Blk.drewN | with_reducible apply Blk.drew))) hb
    have B2 := Blk.below (b := w.heap.size + 1) (t := 51) (by (repeat (first | (with_reducible assumption) | (with_reducible apply Blk.new'; (first | (with_reducible rfl) | (simp; done))) | with_reducible apply Blk.alloc | with_reducible apply Blk.set | ((with_reducible apply Blk.set_ne); focus (first | (simp; done) | (simp; omega))) | with_reducible apply Blk.drewN | with_reducible apply Blk.drew))) hb
    have B1c := B1.cell; have B1l := B1.lt; have B2c := B2.cell; have B2l := B2.lt
    clear hb
    go_wp2_with fail
    go_ret
    exact ⟨rfl, HB1⟩
  · have ht : (2000 : Int) < t.size := by omega
    clear h
    go_enter Try.func10, Try.ntmps10
    go_wp2_with fail
    refine (awake12 _).mono ?_
    rintro e w1 ⟨rfl, hb⟩
    have HB1 : Below w.heap.size w w1 := Below.thn (by (repeat (first | (with_reducible assumption) | (with_reducible exact Below.refl _ _) | with_reducible apply bl_drewN | with_reducible apply Below.drew | (with_reducible apply bl_alloc; focus (first | (simp; done) | (simp; omega) | omega)) | (with_reducible apply bl_set; focus (first | (simp; done) | (simp; omega) | omega))))) hb
    have B1 := Blk.below (b := w.heap.size) (t := 51) (by (repeat (first | (with_reducible assumption) | (with_reducible apply Blk.new'; (first | (with_reducible rfl) | (simp; done))) | with_reducible apply Blk.alloc | with_reducible apply Blk.set | ((with_reducible apply Blk.set_ne); focus (first | (simp; done) | (simp; omega))) | with_reducible apply Blk.drewN | with_reducible apply Blk.drew))) hb
    have B2 := Blk.below (b := w.heap.size + 1) (t := 51) (by (repeat (first | (with_reducible assumption) | (with_reducible apply Blk.new'; (first | (with_reducible rfl) | (simp; done))) | with_reducible apply Blk.alloc | with_reducible apply Blk.set | ((with_reducible apply Blk.set_ne); focus (first | (simp; done) | (simp; omega))) | with_reducible apply Blk.drewN | with_reducible apply Blk.drew))) hb
    have B1c := B1.cell; have B1l := B1.lt; have B2c := B2.cell; have B2l := B2.lt
    clear hb
    go_wp2_with fail
    go_ret
    exact ⟨rfl, HB1⟩

set_option maxHeartbeats 16000000 in
set_option maxRecDepth 20000 in
theorem dmakes_walk (a b c d : Nat) (o q t : ByteArray) (w : World) (ho : o.size ≤ 1000) (hq : q.size ≤ 1000) (ht : t.size ≤ 2000) (ha : a ≤ 255) (hb' : b ≤ 255) (hc' : c ≤ 255) (hd' : d ≤ 255) :
    Calls Try.prog 10 #[.agg #[.int .u8 a, .int .u8 b, .string o], .agg #[.int .u8 c, .int .u8 d, .string q], .string t] w fun e w' => e = .returned (.bool true) ∧ Below w.heap.size w w' := by
  have hm : ¬ (1000 : Int) < max (o.size : Int) q.size := by omega
  have ht2 : ¬ (2000 : Int) < t.size := by omega
  have L1 := Lib.hid (fun W => look_any a b o W ha hb' (by omega))
  have L2 := Lib.hid (fun W => look_any c d q W hc' hd' (by omega))
  have hsok := lookS_ok a b o
  have htok := lookS_ok c d q
  have htpl := lookS_plain c d q
  obtain ⟨S, hS⟩ : ∃ x, lookS a b o = x := ⟨_, rfl⟩
  obtain ⟨T, hT⟩ : ∃ x, lookS c d q = x := ⟨_, rfl⟩
  rw [hS] at L1 hsok
  rw [hT] at L2 htok htpl
  have hlen : (ofL S T).length ≤ 10000 := by
    by_cases hd : T.w ≠ S.w ∨ T.h ≠ S.h
    · unfold ofL
      rw [if_pos hd]
      have h5 := wh_small htok.w2 htok.h2
      have h6 : (txtS T).size = 4 + T.b.length := by
        show (head4 T ++ txt T.b).size = _
        rw [ByteArray.size_append, txt_size]; rfl
      have h7 : (txtS T).data.toList.length = (txtS T).size := rfl
      rw [List.length_cons, h7, h6, htok.len]; omega
    · have h5 := (ofL_len S T hsok htok (by omega) (by omega)).2
      have h6 := cnt_le S.b T.b
      have h7 := wh_small hsok.w2 hsok.h2
      rw [hsok.len] at h6
      omega
  have cO := fun W => of_any S T W hsok htok
  have cD := fun W => do_any S ⟨(ofL S T).toArray⟩ W hsok (by show (ofL S T).length ≤ 10000; exact hlen)
  rw [show (⟨(ofL S T).toArray⟩ : ByteArray).data.toList = ofL S T from rfl, do_of S T hsok htok htpl] at cD
  have cRO := fun W v1 v2 (h1 : RScrAt W v1 S) (h2 : RScrAt W v2 T) => rof_any S T v1 v2 W h1 h2 hsok htok
  have hBD := bothD_any S t hsok (by omega)
  unfold pv at cD
  unfold BothD at hBD
  obtain ⟨dS, hdS⟩ : ∃ x : ByteArray, ⟨(ofL S T).toArray⟩ = x := ⟨_, rfl⟩
  rw [hdS] at cO cD cRO
  have cZ := fun W => dsize_any _ _ _ _ _ _ _ _ _ _ dS W cO
  obtain ⟨Sw, hSw⟩ : ∃ x, S.w = x := ⟨_, rfl⟩
  obtain ⟨Sh, hSh⟩ : ∃ x, S.h = x := ⟨_, rfl⟩
  obtain ⟨Sx, hSx⟩ : ∃ x, S.x = x := ⟨_, rfl⟩
  obtain ⟨Sy, hSy⟩ : ∃ x, S.y = x := ⟨_, rfl⟩
  obtain ⟨Tw, hTw⟩ : ∃ x, T.w = x := ⟨_, rfl⟩
  obtain ⟨Th, hTh⟩ : ∃ x, T.h = x := ⟨_, rfl⟩
  obtain ⟨Tx, hTx⟩ : ∃ x, T.x = x := ⟨_, rfl⟩
  obtain ⟨Ty, hTy⟩ : ∃ x, T.y = x := ⟨_, rfl⟩
  obtain ⟨st, hst⟩ : ∃ x, txt S.b = x := ⟨_, rfl⟩
  obtain ⟨tt, htt⟩ : ∃ x, txt T.b = x := ⟨_, rfl⟩
  simp only [hSw, hSh, hSx, hSy, hTw, hTh, hTx, hTy, hst, htt] at cO cD cZ hBD L1 L2
  have CO := Lib.hid cO; have CD := Lib.hid cD; have CRO := Lib.hid cRO; have CZ := Lib.hid cZ
  clear cO cD cRO cZ hdS hlen hsok htok htpl hS hT hSw hSh hSx hSy hTw hTh hTx hTy hst htt
  rcases hBD with ⟨hB1, hB2⟩ | ⟨bb, hB1, hB2, hB3, hB4⟩
  · have HD1 := Lib.hid hB1; have HD2 := Lib.hid hB2
    clear hB1 hB2
    go_enter Try.func10, Try.ntmps10
    go_wp2_with fail
    refine (awake12 _).mono ?_
    rintro e W1 ⟨rfl, hb⟩
    have HB1 : Below w.heap.size w W1 := Below.thn (by (repeat (first | (with_reducible assumption) | (with_reducible exact Below.refl _ _) | with_reducible apply bl_drewN | with_reducible apply Below.drew | (with_reducible apply bl_alloc; focus (first | (simp; done) | (simp; omega) | omega)) | (with_reducible apply bl_set; focus (first | (simp; done) | (simp; omega) | omega))))) hb
    have A1 := Blk.below (b := w.heap.size) (t := 51) (by (repeat (first | (with_reducible assumption) | (with_reducible apply Blk.new'; (first | (with_reducible rfl) | (simp; done))) | with_reducible apply Blk.alloc | with_reducible apply Blk.set | ((with_reducible apply Blk.set_ne); focus (first | (simp; done) | (simp; omega))) | with_reducible apply Blk.drewN | with_reducible apply Blk.drew))) hb
    have B1 := Blk.below (b := w.heap.size + 1) (t := 51) (by (repeat (first | (with_reducible assumption) | (with_reducible apply Blk.new'; (first | (with_reducible rfl) | (simp; done))) | with_reducible apply Blk.alloc | with_reducible apply Blk.set | ((with_reducible apply Blk.set_ne); focus (first | (simp; done) | (simp; omega))) | with_reducible apply Blk.drewN | with_reducible apply Blk.drew))) hb
    have HB1s := HB1.size
    have A1c := A1.cell; have A1l := A1.lt; have B1c := B1.cell; have B1l := B1.lt
    clear hb
    go_wp2_with fail
    refine (L1.out _).mono ?_
    rintro e W3 ⟨b3, o3, c3, rfl, R3, hb⟩
    have HB3 := Below.thn HB1 hb HB1s
    have B3 := B1.below hb
    have HB3s := HB3.size
    have B3l := B3.lt
    clear hb HB1 A1 B1 HB1s A1c A1l B1c B1l
    go_upto_region 6 with fail
    refine wp_absQ (fun W => Below w.heap.size w W ∧ Blk W (w.heap.size + 1) #[.int .u8 c, .int .u8 d, .string q] 51 ∧ Blk W W3.heap.size #[.int .i64 Sw, .int .i64 Sh, .int .i64 Sx, .int .i64 Sy, .string st] 24 ∧ Blk W (W3.heap.size + 1) #[.int .i64 Sw, .int .i64 Sh, .int .i64 Sx, .int .i64 Sy, .slice (some ⟨b3, o3, none⟩) Sh c3] 41 ∧ RScrAt W (RV Sw Sh Sx Sy (.slice (some ⟨b3, o3, none⟩) Sh c3)) S) ⟨by (repeat (first | (with_reducible assumption) | (with_reducible exact Below.refl _ _) | with_reducible apply bl_drewN | with_reducible apply Below.drew | (with_reducible apply bl_alloc; focus (first | (simp; done) | (simp; omega) | omega)) | (with_reducible apply bl_set; focus (first | (simp; done) | (simp; omega) | omega)))), by (repeat (first | (with_reducible assumption) | (with_reducible apply Blk.new'; (first | (with_reducible rfl) | (simp; done))) | with_reducible apply Blk.alloc | with_reducible apply Blk.set | ((with_reducible apply Blk.set_ne); focus (first | (simp; done) | (simp; omega))) | with_reducible apply Blk.drewN | with_reducible apply Blk.drew)), by (repeat (first | (with_reducible assumption) | (with_reducible apply Blk.new'; (first | (with_reducible rfl) | (simp; done))) | with_reducible apply Blk.alloc | with_reducible apply Blk.set | ((with_reducible apply Blk.set_ne); focus (first | (simp; done) | (simp; omega))) | with_reducible apply Blk.drewN | with_reducible apply Blk.drew)), by (repeat (first | (with_reducible assumption) | (with_reducible apply Blk.new'; (first | (with_reducible rfl) | (simp; done))) | with_reducible apply Blk.alloc | with_reducible apply Blk.set | ((with_reducible apply Blk.set_ne); focus (first | (simp; done) | (simp; omega))) | with_reducible apply Blk.drewN | with_reducible apply Blk.drew)), R3.below (by (repeat (first | (with_reducible assumption) | (with_reducible exact Below.refl _ _) | with_reducible apply bl_drewN | with_reducible apply Below.drew | (with_reducible apply bl_alloc; focus (first | (simp; done) | (simp; omega) | omega)) | (with_reducible apply bl_set; focus (first | (simp; done) | (simp; omega) | omega)))))⟩ (fun W4 h5 => ?_)
    obtain ⟨bs, hbs⟩ : ∃ x, W3.heap.size = x := ⟨_, rfl⟩
    rw [hbs] at h5 ⊢
    obtain ⟨HB4, B4, S4, P4, R4⟩ := h5
    have HB4s := HB4.size
    clear HB3 HB3s B3 B3l R3 hbs
    have B4c := B4.cell; have B4l := B4.lt
    go_wp2_with fail
    refine (L2.out _).mono ?_
    rintro e W5 ⟨b5, o5, c5, rfl, R5, hb⟩
    have HB5 := Below.thn HB4 hb HB4s
    have S5 := S4.below hb
    have P5 := P4.below hb
    have RS5 := R4.below hb
    have HB5s := HB5.size
    have S5l := S5.lt; have P5l := P5.lt
    clear hb HB4 B4 S4 P4 R4 HB4s B4c B4l
    go_upto_region 7 with fail
    refine wp_absQ (fun W => Below w.heap.size w W ∧ Blk W bs #[.int .i64 Sw, .int .i64 Sh, .int .i64 Sx, .int .i64 Sy, .string st] 24 ∧ Blk W (bs + 1) #[.int .i64 Sw, .int .i64 Sh, .int .i64 Sx, .int .i64 Sy, .slice (some ⟨b3, o3, none⟩) Sh c3] 41 ∧ RScrAt W (RV Sw Sh Sx Sy (.slice (some ⟨b3, o3, none⟩) Sh c3)) S ∧ Blk W W5.heap.size #[.int .i64 Tw, .int .i64 Th, .int .i64 Tx, .int .i64 Ty, .string tt] 24 ∧ Blk W (W5.heap.size + 1) #[.int .i64 Tw, .int .i64 Th, .int .i64 Tx, .int .i64 Ty, .slice (some ⟨b5, o5, none⟩) Th c5] 41 ∧ RScrAt W (RV Tw Th Tx Ty (.slice (some ⟨b5, o5, none⟩) Th c5)) T) ⟨by (repeat (first | (with_reducible assumption) | (with_reducible exact Below.refl _ _) | with_reducible apply bl_drewN | with_reducible apply Below.drew | (with_reducible apply bl_alloc; focus (first | (simp; done) | (simp; omega) | omega)) | (with_reducible apply bl_set; focus (first | (simp; done) | (simp; omega) | omega)))), by (repeat (first | (with_reducible assumption) | (with_reducible apply Blk.new'; (first | (with_reducible rfl) | (simp; done))) | with_reducible apply Blk.alloc | with_reducible apply Blk.set | ((with_reducible apply Blk.set_ne); focus (first | (simp; done) | (simp; omega))) | with_reducible apply Blk.drewN | with_reducible apply Blk.drew)), by (repeat (first | (with_reducible assumption) | (with_reducible apply Blk.new'; (first | (with_reducible rfl) | (simp; done))) | with_reducible apply Blk.alloc | with_reducible apply Blk.set | ((with_reducible apply Blk.set_ne); focus (first | (simp; done) | (simp; omega))) | with_reducible apply Blk.drewN | with_reducible apply Blk.drew)), RS5.below (by (repeat (first | (with_reducible assumption) | (with_reducible exact Below.refl _ _) | with_reducible apply bl_drewN | with_reducible apply Below.drew | (with_reducible apply bl_alloc; focus (first | (simp; done) | (simp; omega) | omega)) | (with_reducible apply bl_set; focus (first | (simp; done) | (simp; omega) | omega))))), by (repeat (first | (with_reducible assumption) | (with_reducible apply Blk.new'; (first | (with_reducible rfl) | (simp; done))) | with_reducible apply Blk.alloc | with_reducible apply Blk.set | ((with_reducible apply Blk.set_ne); focus (first | (simp; done) | (simp; omega))) | with_reducible apply Blk.drewN | with_reducible apply Blk.drew)), by (repeat (first | (with_reducible assumption) | (with_reducible apply Blk.new'; (first | (with_reducible rfl) | (simp; done))) | with_reducible apply Blk.alloc | with_reducible apply Blk.set | ((with_reducible apply Blk.set_ne); focus (first | (simp; done) | (simp; omega))) | with_reducible apply Blk.drewN | with_reducible apply Blk.drew)), R5.below (by (repeat (first | (with_reducible assumption) | (with_reducible exact Below.refl _ _) | with_reducible apply bl_drewN | with_reducible apply Below.drew | (with_reducible apply bl_alloc; focus (first | (simp; done) | (simp; omega) | omega)) | (with_reducible apply bl_set; focus (first | (simp; done) | (simp; omega) | omega)))))⟩ (fun W6 h5 => ?_)
    obtain ⟨bt, hbt⟩ : ∃ x, W5.heap.size = x := ⟨_, rfl⟩
    rw [hbt] at h5 ⊢
    obtain ⟨HB6, S6, P6, RS6, T6, Q6, RT6⟩ := h5
    have HB6s := HB6.size
    clear HB5 HB5s S5 P5 RS5 S5l P5l R5 hbt
    have S6c := S6.cell; have S6l := S6.lt; have T6c := T6.cell; have T6l := T6.lt
    go_wp2_with fail
    refine (CO.out _).mono ?_
    rintro e W7 ⟨rfl, hb⟩
    have HB7 := Below.thn HB6 hb HB6s
    have S7 := S6.below hb; have P7 := P6.below hb; have RS7 := RS6.below hb; have T7 := T6.below hb; have Q7 := Q6.below hb; have RT7 := RT6.below hb
    have HB7s := HB7.size
    clear hb HB6 HB6s S6 P6 RS6 T6 Q6 RT6 S6c S6l T6c T6l
    have S7c := S7.cell; have S7l := S7.lt
    go_wp2_with fail
    refine (CD.out _).mono ?_
    rintro e W8 ⟨rfl, hb⟩
    have HB8 := Below.thn HB7 hb HB7s
    have S8 := S7.below hb; have P8 := P7.below hb; have RS8 := RS7.below hb; have T8 := T7.below hb; have Q8 := Q7.below hb; have RT8 := RT7.below hb
    have HB8s := HB8.size
    have S8l := S8.lt; have P8l := P8.lt; have T8l := T8.lt; have Q8l := Q8.lt
    clear hb HB7 HB7s S7 P7 RS7 T7 Q7 RT7 S7c S7l
    go_upto_region 9 with fail
    refine wp_absQ (fun W => Below w.heap.size w W ∧ Blk W bs #[.int .i64 Sw, .int .i64 Sh, .int .i64 Sx, .int .i64 Sy, .string st] 24 ∧ Blk W (bs + 1) #[.int .i64 Sw, .int .i64 Sh, .int .i64 Sx, .int .i64 Sy, .slice (some ⟨b3, o3, none⟩) Sh c3] 41 ∧ RScrAt W (RV Sw Sh Sx Sy (.slice (some ⟨b3, o3, none⟩) Sh c3)) S ∧ Blk W bt #[.int .i64 Tw, .int .i64 Th, .int .i64 Tx, .int .i64 Ty, .string tt] 24 ∧ Blk W (bt + 1) #[.int .i64 Tw, .int .i64 Th, .int .i64 Tx, .int .i64 Ty, .slice (some ⟨b5, o5, none⟩) Th c5] 41 ∧ RScrAt W (RV Tw Th Tx Ty (.slice (some ⟨b5, o5, none⟩) Th c5)) T ∧ Blk W W8.heap.size #[.int .i64 Tw, .int .i64 Th, .int .i64 Tx, .int .i64 Ty, .string tt] 24) ⟨by (repeat (first | (with_reducible assumption) | (with_reducible exact Below.refl _ _) | with_reducible apply bl_drewN | with_reducible apply Below.drew | (with_reducible apply bl_alloc; focus (first | (simp; done) | (simp; omega) | omega)) | (with_reducible apply bl_set; focus (first | (simp; done) | (simp; omega) | omega)))), by (repeat (first | (with_reducible assumption) | (with_reducible apply Blk.new'; (first | (with_reducible rfl) | (simp; done))) | with_reducible apply Blk.alloc | with_reducible apply Blk.set | ((with_reducible apply Blk.set_ne); focus (first | (simp; done) | (simp; omega))) | with_reducible apply Blk.drewN | with_reducible apply Blk.drew)), by (repeat (first | (with_reducible assumption) | (with_reducible apply Blk.new'; (first | (with_reducible rfl) | (simp; done))) | with_reducible apply Blk.alloc | with_reducible apply Blk.set | ((with_reducible apply Blk.set_ne); focus (first | (simp; done) | (simp; omega))) | with_reducible apply Blk.drewN | with_reducible apply Blk.drew)), RS8.below (by (repeat (first | (with_reducible assumption) | (with_reducible exact Below.refl _ _) | with_reducible apply bl_drewN | with_reducible apply Below.drew | (with_reducible apply bl_alloc; focus (first | (simp; done) | (simp; omega) | omega)) | (with_reducible apply bl_set; focus (first | (simp; done) | (simp; omega) | omega))))), by (repeat (first | (with_reducible assumption) | (with_reducible apply Blk.new'; (first | (with_reducible rfl) | (simp; done))) | with_reducible apply Blk.alloc | with_reducible apply Blk.set | ((with_reducible apply Blk.set_ne); focus (first | (simp; done) | (simp; omega))) | with_reducible apply Blk.drewN | with_reducible apply Blk.drew)), by (repeat (first | (with_reducible assumption) | (with_reducible apply Blk.new'; (first | (with_reducible rfl) | (simp; done))) | with_reducible apply Blk.alloc | with_reducible apply Blk.set | ((with_reducible apply Blk.set_ne); focus (first | (simp; done) | (simp; omega))) | with_reducible apply Blk.drewN | with_reducible apply Blk.drew)), RT8.below (by (repeat (first | (with_reducible assumption) | (with_reducible exact Below.refl _ _) | with_reducible apply bl_drewN | with_reducible apply Below.drew | (with_reducible apply bl_alloc; focus (first | (simp; done) | (simp; omega) | omega)) | (with_reducible apply bl_set; focus (first | (simp; done) | (simp; omega) | omega))))), by (repeat (first | (with_reducible assumption) | (with_reducible apply Blk.new'; (first | (with_reducible rfl) | (simp; done))) | with_reducible apply Blk.alloc | with_reducible apply Blk.set | ((with_reducible apply Blk.set_ne); focus (first | (simp; done) | (simp; omega))) | with_reducible apply Blk.drewN | with_reducible apply Blk.drew))⟩ (fun W9 h5 => ?_)
    obtain ⟨bu, hbu⟩ : ∃ x, W8.heap.size = x := ⟨_, rfl⟩
    rw [hbu] at h5 ⊢
    obtain ⟨HB9, S9, P9, RS9, T9, Q9, RT9, U9⟩ := h5
    have HB9s := HB9.size
    clear HB8 HB8s S8 P8 RS8 T8 Q8 RT8 S8l P8l T8l Q8l hbu
    have P9c := P9.cell; have P9l := P9.lt; have Q9c := Q9.cell; have Q9l := Q9.lt
    go_wp2_with fail
    refine (CRO.out _ _ _ RS9 RT9).mono ?_
    rintro e W10 ⟨rfl, hb⟩
    have HB10 := Below.thn HB9 hb HB9s
    have S10 := S9.below hb; have P10 := P9.below hb; have RS10 := RS9.below hb; have T10 := T9.below hb; have U10 := U9.below hb
    have HB10s := HB10.size
    clear hb HB9 HB9s S9 P9 RS9 T9 Q9 RT9 U9 P9c P9l Q9c Q9l
    have S10c := S10.cell; have S10l := S10.lt; have T10c := T10.cell; have T10l := T10.lt
    go_wp2_with fail
    refine (CZ.out _).mono ?_
    rintro e W11 ⟨rfl, hb⟩
    have HB11 := Below.thn HB10 hb HB10s
    have S11 := S10.below hb; have P11 := P10.below hb; have RS11 := RS10.below hb; have T11 := T10.below hb; have U11 := U10.below hb
    have HB11s := HB11.size
    clear hb HB10 HB10s S10 P10 RS10 T10 U10 S10c S10l T10c T10l
    have U11c := U11.cell; have U11l := U11.lt; have T11c := T11.cell; have T11l := T11.lt
    go_wp2_with fail
    refine (same_true _ _ _ _ _ _).mono ?_
    rintro e W12 ⟨rfl, hb⟩
    have HB12 := Below.thn HB11 hb HB11s
    have S12 := S11.below hb; have P12 := P11.below hb; have RS12 := RS11.below hb
    have HB12s := HB12.size
    clear hb HB11 HB11s S11 P11 RS11 T11 U11 U11c U11l T11c T11l
    have S12c := S12.cell; have S12l := S12.lt
    go_wp2_with fail
    refine (HD1.out _).mono ?_
    rintro e W13 ⟨rfl, hb⟩
    have HB13 := Below.thn HB12 hb HB12s
    have P13 := P12.below hb; have RS13 := RS12.below hb
    have HB13s := HB13.size
    have P13l := P13.lt
    clear hb HB12 HB12s S12 P12 RS12 S12c S12l
    go_upto_region 12 with fail
    refine wp_absQ (fun W => Below w.heap.size w W ∧ Blk W (bs + 1) #[.int .i64 Sw, .int .i64 Sh, .int .i64 Sx, .int .i64 Sy, .slice (some ⟨b3, o3, none⟩) Sh c3] 41 ∧ RScrAt W (RV Sw Sh Sx Sy (.slice (some ⟨b3, o3, none⟩) Sh c3)) S ∧ Blk W W13.heap.size #[.int .i64 0, .int .i64 0, .int .i64 0, .int .i64 0, .string ⟨#[]⟩] 24) ⟨by (repeat (first | (with_reducible assumption) | (with_reducible exact Below.refl _ _) | with_reducible apply bl_drewN | with_reducible apply Below.drew | (with_reducible apply bl_alloc; focus (first | (simp; done) | (simp; omega) | omega)) | (with_reducible apply bl_set; focus (first | (simp; done) | (simp; omega) | omega)))), by (repeat (first | (with_reducible assumption) | (with_reducible apply Blk.new'; (first | (with_reducible rfl) | (simp; done))) | with_reducible apply Blk.alloc | with_reducible apply Blk.set | ((with_reducible apply Blk.set_ne); focus (first | (simp; done) | (simp; omega))) | with_reducible apply Blk.drewN | with_reducible apply Blk.drew)), RS13.below (by (repeat (first | (with_reducible assumption) | (with_reducible exact Below.refl _ _) | with_reducible apply bl_drewN | with_reducible apply Below.drew | (with_reducible apply bl_alloc; focus (first | (simp; done) | (simp; omega) | omega)) | (with_reducible apply bl_set; focus (first | (simp; done) | (simp; omega) | omega))))), by (repeat (first | (with_reducible assumption) | (with_reducible apply Blk.new'; (first | (with_reducible rfl) | (simp; done))) | with_reducible apply Blk.alloc | with_reducible apply Blk.set | ((with_reducible apply Blk.set_ne); focus (first | (simp; done) | (simp; omega))) | with_reducible apply Blk.drewN | with_reducible apply Blk.drew))⟩ (fun W14 h5 => ?_)
    obtain ⟨HB14, P14, RS14, V14⟩ := h5
    have HB14s := HB14.size
    clear HB13 P13 RS13 HB13s P13l
    have P14c := P14.cell; have P14l := P14.lt
    go_wp2_with fail
    refine (HD2.out _ _ RS14).mono ?_
    rintro e W15 ⟨rfl, hb⟩
    have HB15 := Below.thn HB14 hb HB14s
    have V15 := V14.below hb
    have HB15s := HB15.size
    have V15l := V15.lt
    clear hb HB14 P14 RS14 V14 HB14s P14c P14l
    go_upto_region 13 with fail
    refine wp_absQ (fun W => Below w.heap.size w W ∧ Blk W W13.heap.size #[.int .i64 0, .int .i64 0, .int .i64 0, .int .i64 0, .string ⟨#[]⟩] 24) ⟨by (repeat (first | (with_reducible assumption) | (with_reducible exact Below.refl _ _) | with_reducible apply bl_drewN | with_reducible apply Below.drew | (with_reducible apply bl_alloc; focus (first | (simp; done) | (simp; omega) | omega)) | (with_reducible apply bl_set; focus (first | (simp; done) | (simp; omega) | omega)))), by (repeat (first | (with_reducible assumption) | (with_reducible apply Blk.new'; (first | (with_reducible rfl) | (simp; done))) | with_reducible apply Blk.alloc | with_reducible apply Blk.set | ((with_reducible apply Blk.set_ne); focus (first | (simp; done) | (simp; omega))) | with_reducible apply Blk.drewN | with_reducible apply Blk.drew))⟩ (fun W16 h5 => ?_)
    obtain ⟨HB16, V16⟩ := h5
    have HB16s := HB16.size
    have V16c := V16.cell; have V16l := V16.lt
    go_wp2_with fail
    refine (same_true _ _ _ _ _ _).mono ?_
    rintro e W17 ⟨rfl, hb⟩
    have HB17 := Below.thn HB16 hb HB16s
    go_wp2_with fail
    go_ret
    exact ⟨rfl, HB17⟩
  · have HD1 := Lib.hid hB1; have HD2 := Lib.hid hB2; have HD3 := Lib.hid hB3; have HD4 := Lib.hid hB4
    clear hB1 hB2 hB3 hB4
    go_enter Try.func10, Try.ntmps10
    go_wp2_with fail
    refine (awake12 _).mono ?_
    rintro e W1 ⟨rfl, hb⟩
    have HB1 : Below w.heap.size w W1 := Below.thn (by (repeat (first | (with_reducible assumption) | (with_reducible exact Below.refl _ _) | with_reducible apply bl_drewN | with_reducible apply Below.drew | (with_reducible apply bl_alloc; focus (first | (simp; done) | (simp; omega) | omega)) | (with_reducible apply bl_set; focus (first | (simp; done) | (simp; omega) | omega))))) hb
    have A1 := Blk.below (b := w.heap.size) (t := 51) (by (repeat (first | (with_reducible assumption) | (with_reducible apply Blk.new'; (first | (with_reducible rfl) | (simp; done))) | with_reducible apply Blk.alloc | with_reducible apply Blk.set | ((with_reducible apply Blk.set_ne); focus (first | (simp; done) | (simp; omega))) | with_reducible apply Blk.drewN | with_reducible apply Blk.drew))) hb
    have B1 := Blk.below (b := w.heap.size + 1) (t := 51) (by (repeat (first | (with_reducible assumption) | (with_reducible apply Blk.new'; (first | (with_reducible rfl) | (simp; done))) | with_reducible apply Blk.alloc | with_reducible apply Blk.set | ((with_reducible apply Blk.set_ne); focus (first | (simp; done) | (simp; omega))) | with_reducible apply Blk.drewN | with_reducible apply Blk.drew))) hb
    have HB1s := HB1.size
    have A1c := A1.cell; have A1l := A1.lt; have B1c := B1.cell; have B1l := B1.lt
    clear hb
    go_wp2_with fail
    refine (L1.out _).mono ?_
    rintro e W3 ⟨b3, o3, c3, rfl, R3, hb⟩
    have HB3 := Below.thn HB1 hb HB1s
    have B3 := B1.below hb
    have HB3s := HB3.size
    have B3l := B3.lt
    clear hb HB1 A1 B1 HB1s A1c A1l B1c B1l
    go_upto_region 6 with fail
    refine wp_absQ (fun W => Below w.heap.size w W ∧ Blk W (w.heap.size + 1) #[.int .u8 c, .int .u8 d, .string q] 51 ∧ Blk W W3.heap.size #[.int .i64 Sw, .int .i64 Sh, .int .i64 Sx, .int .i64 Sy, .string st] 24 ∧ Blk W (W3.heap.size + 1) #[.int .i64 Sw, .int .i64 Sh, .int .i64 Sx, .int .i64 Sy, .slice (some ⟨b3, o3, none⟩) Sh c3] 41 ∧ RScrAt W (RV Sw Sh Sx Sy (.slice (some ⟨b3, o3, none⟩) Sh c3)) S) ⟨by (repeat (first | (with_reducible assumption) | (with_reducible exact Below.refl _ _) | with_reducible apply bl_drewN | with_reducible apply Below.drew | (with_reducible apply bl_alloc; focus (first | (simp; done) | (simp; omega) | omega)) | (with_reducible apply bl_set; focus (first | (simp; done) | (simp; omega) | omega)))), by (repeat (first | (with_reducible assumption) | (with_reducible apply Blk.new'; (first | (with_reducible rfl) | (simp; done))) | with_reducible apply Blk.alloc | with_reducible apply Blk.set | ((with_reducible apply Blk.set_ne); focus (first | (simp; done) | (simp; omega))) | with_reducible apply Blk.drewN | with_reducible apply Blk.drew)), by (repeat (first | (with_reducible assumption) | (with_reducible apply Blk.new'; (first | (with_reducible rfl) | (simp; done))) | with_reducible apply Blk.alloc | with_reducible apply Blk.set | ((with_reducible apply Blk.set_ne); focus (first | (simp; done) | (simp; omega))) | with_reducible apply Blk.drewN | with_reducible apply Blk.drew)), by (repeat (first | (with_reducible assumption) | (with_reducible apply Blk.new'; (first | (with_reducible rfl) | (simp; done))) | with_reducible apply Blk.alloc | with_reducible apply Blk.set | ((with_reducible apply Blk.set_ne); focus (first | (simp; done) | (simp; omega))) | with_reducible apply Blk.drewN | with_reducible apply Blk.drew)), R3.below (by (repeat (first | (with_reducible assumption) | (with_reducible exact Below.refl _ _) | with_reducible apply bl_drewN | with_reducible apply Below.drew | (with_reducible apply bl_alloc; focus (first | (simp; done) | (simp; omega) | omega)) | (with_reducible apply bl_set; focus (first | (simp; done) | (simp; omega) | omega)))))⟩ (fun W4 h5 => ?_)
    obtain ⟨bs, hbs⟩ : ∃ x, W3.heap.size = x := ⟨_, rfl⟩
    rw [hbs] at h5 ⊢
    obtain ⟨HB4, B4, S4, P4, R4⟩ := h5
    have HB4s := HB4.size
    clear HB3 HB3s B3 B3l R3 hbs
    have B4c := B4.cell; have B4l := B4.lt
    go_wp2_with fail
    refine (L2.out _).mono ?_
    rintro e W5 ⟨b5, o5, c5, rfl, R5, hb⟩
    have HB5 := Below.thn HB4 hb HB4s
    have S5 := S4.below hb
    have P5 := P4.below hb
    have RS5 := R4.below hb
    have HB5s := HB5.size
    have S5l := S5.lt; have P5l := P5.lt
    clear hb HB4 B4 S4 P4 R4 HB4s B4c B4l
    go_upto_region 7 with fail
    refine wp_absQ (fun W => Below w.heap.size w W ∧ Blk W bs #[.int .i64 Sw, .int .i64 Sh, .int .i64 Sx, .int .i64 Sy, .string st] 24 ∧ Blk W (bs + 1) #[.int .i64 Sw, .int .i64 Sh, .int .i64 Sx, .int .i64 Sy, .slice (some ⟨b3, o3, none⟩) Sh c3] 41 ∧ RScrAt W (RV Sw Sh Sx Sy (.slice (some ⟨b3, o3, none⟩) Sh c3)) S ∧ Blk W W5.heap.size #[.int .i64 Tw, .int .i64 Th, .int .i64 Tx, .int .i64 Ty, .string tt] 24 ∧ Blk W (W5.heap.size + 1) #[.int .i64 Tw, .int .i64 Th, .int .i64 Tx, .int .i64 Ty, .slice (some ⟨b5, o5, none⟩) Th c5] 41 ∧ RScrAt W (RV Tw Th Tx Ty (.slice (some ⟨b5, o5, none⟩) Th c5)) T) ⟨by (repeat (first | (with_reducible assumption) | (with_reducible exact Below.refl _ _) | with_reducible apply bl_drewN | with_reducible apply Below.drew | (with_reducible apply bl_alloc; focus (first | (simp; done) | (simp; omega) | omega)) | (with_reducible apply bl_set; focus (first | (simp; done) | (simp; omega) | omega)))), by (repeat (first | (with_reducible assumption) | (with_reducible apply Blk.new'; (first | (with_reducible rfl) | (simp; done))) | with_reducible apply Blk.alloc | with_reducible apply Blk.set | ((with_reducible apply Blk.set_ne); focus (first | (simp; done) | (simp; omega))) | with_reducible apply Blk.drewN | with_reducible apply Blk.drew)), by (repeat (first | (with_reducible assumption) | (with_reducible apply Blk.new'; (first | (with_reducible rfl) | (simp; done))) | with_reducible apply Blk.alloc | with_reducible apply Blk.set | ((with_reducible apply Blk.set_ne); focus (first | (simp; done) | (simp; omega))) | with_reducible apply Blk.drewN | with_reducible apply Blk.drew)), RS5.below (by (repeat (first | (with_reducible assumption) | (with_reducible exact Below.refl _ _) | with_reducible apply bl_drewN | with_reducible apply Below.drew | (with_reducible apply bl_alloc; focus (first | (simp; done) | (simp; omega) | omega)) | (with_reducible apply bl_set; focus (first | (simp; done) | (simp; omega) | omega))))), by (repeat (first | (with_reducible assumption) | (with_reducible apply Blk.new'; (first | (with_reducible rfl) | (simp; done))) | with_reducible apply Blk.alloc | with_reducible apply Blk.set | ((with_reducible apply Blk.set_ne); focus (first | (simp; done) | (simp; omega))) | with_reducible apply Blk.drewN | with_reducible apply Blk.drew)), by (repeat (first | (with_reducible assumption) | (with_reducible apply Blk.new'; (first | (with_reducible rfl) | (simp; done))) | with_reducible apply Blk.alloc | with_reducible apply Blk.set | ((with_reducible apply Blk.set_ne); focus (first | (simp; done) | (simp; omega))) | with_reducible apply Blk.drewN | with_reducible apply Blk.drew)), R5.below (by (repeat (first | (with_reducible assumption) | (with_reducible exact Below.refl _ _) | with_reducible apply bl_drewN | with_reducible apply Below.drew | (with_reducible apply bl_alloc; focus (first | (simp; done) | (simp; omega) | omega)) | (with_reducible apply bl_set; focus (first | (simp; done) | (simp; omega) | omega)))))⟩ (fun W6 h5 => ?_)
    obtain ⟨bt, hbt⟩ : ∃ x, W5.heap.size = x := ⟨_, rfl⟩
    rw [hbt] at h5 ⊢
    obtain ⟨HB6, S6, P6, RS6, T6, Q6, RT6⟩ := h5
    have HB6s := HB6.size
    clear HB5 HB5s S5 P5 RS5 S5l P5l R5 hbt
    have S6c := S6.cell; have S6l := S6.lt; have T6c := T6.cell; have T6l := T6.lt
    go_wp2_with fail
    refine (CO.out _).mono ?_
    rintro e W7 ⟨rfl, hb⟩
    have HB7 := Below.thn HB6 hb HB6s
    have S7 := S6.below hb; have P7 := P6.below hb; have RS7 := RS6.below hb; have T7 := T6.below hb; have Q7 := Q6.below hb; have RT7 := RT6.below hb
    have HB7s := HB7.size
    clear hb HB6 HB6s S6 P6 RS6 T6 Q6 RT6 S6c S6l T6c T6l
    have S7c := S7.cell; have S7l := S7.lt
    go_wp2_with fail
    refine (CD.out _).mono ?_
    rintro e W8 ⟨rfl, hb⟩
    have HB8 := Below.thn HB7 hb HB7s
    have S8 := S7.below hb; have P8 := P7.below hb; have RS8 := RS7.below hb; have T8 := T7.below hb; have Q8 := Q7.below hb; have RT8 := RT7.below hb
    have HB8s := HB8.size
    have S8l := S8.lt; have P8l := P8.lt; have T8l := T8.lt; have Q8l := Q8.lt
    clear hb HB7 HB7s S7 P7 RS7 T7 Q7 RT7 S7c S7l
    go_upto_region 9 with fail
    refine wp_absQ (fun W => Below w.heap.size w W ∧ Blk W bs #[.int .i64 Sw, .int .i64 Sh, .int .i64 Sx, .int .i64 Sy, .string st] 24 ∧ Blk W (bs + 1) #[.int .i64 Sw, .int .i64 Sh, .int .i64 Sx, .int .i64 Sy, .slice (some ⟨b3, o3, none⟩) Sh c3] 41 ∧ RScrAt W (RV Sw Sh Sx Sy (.slice (some ⟨b3, o3, none⟩) Sh c3)) S ∧ Blk W bt #[.int .i64 Tw, .int .i64 Th, .int .i64 Tx, .int .i64 Ty, .string tt] 24 ∧ Blk W (bt + 1) #[.int .i64 Tw, .int .i64 Th, .int .i64 Tx, .int .i64 Ty, .slice (some ⟨b5, o5, none⟩) Th c5] 41 ∧ RScrAt W (RV Tw Th Tx Ty (.slice (some ⟨b5, o5, none⟩) Th c5)) T ∧ Blk W W8.heap.size #[.int .i64 Tw, .int .i64 Th, .int .i64 Tx, .int .i64 Ty, .string tt] 24) ⟨by (repeat (first | (with_reducible assumption) | (with_reducible exact Below.refl _ _) | with_reducible apply bl_drewN | with_reducible apply Below.drew | (with_reducible apply bl_alloc; focus (first | (simp; done) | (simp; omega) | omega)) | (with_reducible apply bl_set; focus (first | (simp; done) | (simp; omega) | omega)))), by (repeat (first | (with_reducible assumption) | (with_reducible apply Blk.new'; (first | (with_reducible rfl) | (simp; done))) | with_reducible apply Blk.alloc | with_reducible apply Blk.set | ((with_reducible apply Blk.set_ne); focus (first | (simp; done) | (simp; omega))) | with_reducible apply Blk.drewN | with_reducible apply Blk.drew)), by (repeat (first | (with_reducible assumption) | (with_reducible apply Blk.new'; (first | (with_reducible rfl) | (simp; done))) | with_reducible apply Blk.alloc | with_reducible apply Blk.set | ((with_reducible apply Blk.set_ne); focus (first | (simp; done) | (simp; omega))) | with_reducible apply Blk.drewN | with_reducible apply Blk.drew)), RS8.below (by (repeat (first | (with_reducible assumption) | (with_reducible exact Below.refl _ _) | with_reducible apply bl_drewN | with_reducible apply Below.drew | (with_reducible apply bl_alloc; focus (first | (simp; done) | (simp; omega) | omega)) | (with_reducible apply bl_set; focus (first | (simp; done) | (simp; omega) | omega))))), by (repeat (first | (with_reducible assumption) | (with_reducible apply Blk.new'; (first | (with_reducible rfl) | (simp; done))) | with_reducible apply Blk.alloc | with_reducible apply Blk.set | ((with_reducible apply Blk.set_ne); focus (first | (simp; done) | (simp; omega))) | with_reducible apply Blk.drewN | with_reducible apply Blk.drew)), by (repeat (first | (with_reducible assumption) | (with_reducible apply Blk.new'; (first | (with_reducible rfl) | (simp; done))) | with_reducible apply Blk.alloc | with_reducible apply Blk.set | ((with_reducible apply Blk.set_ne); focus (first | (simp; done) | (simp; omega))) | with_reducible apply Blk.drewN | with_reducible apply Blk.drew)), RT8.below (by (repeat (first | (with_reducible assumption) | (with_reducible exact Below.refl _ _) | with_reducible apply bl_drewN | with_reducible apply Below.drew | (with_reducible apply bl_alloc; focus (first | (simp; done) | (simp; omega) | omega)) | (with_reducible apply bl_set; focus (first | (simp; done) | (simp; omega) | omega))))), by (repeat (first | (with_reducible assumption) | (with_reducible apply Blk.new'; (first | (with_reducible rfl) | (simp; done))) | with_reducible apply Blk.alloc | with_reducible apply Blk.set | ((with_reducible apply Blk.set_ne); focus (first | (simp; done) | (simp; omega))) | with_reducible apply Blk.drewN | with_reducible apply Blk.drew))⟩ (fun W9 h5 => ?_)
    obtain ⟨bu, hbu⟩ : ∃ x, W8.heap.size = x := ⟨_, rfl⟩
    rw [hbu] at h5 ⊢
    obtain ⟨HB9, S9, P9, RS9, T9, Q9, RT9, U9⟩ := h5
    have HB9s := HB9.size
    clear HB8 HB8s S8 P8 RS8 T8 Q8 RT8 S8l P8l T8l Q8l hbu
    have P9c := P9.cell; have P9l := P9.lt; have Q9c := Q9.cell; have Q9l := Q9.lt
    go_wp2_with fail
    refine (CRO.out _ _ _ RS9 RT9).mono ?_
    rintro e W10 ⟨rfl, hb⟩
    have HB10 := Below.thn HB9 hb HB9s
    have S10 := S9.below hb; have P10 := P9.below hb; have RS10 := RS9.below hb; have T10 := T9.below hb; have U10 := U9.below hb
    have HB10s := HB10.size
    clear hb HB9 HB9s S9 P9 RS9 T9 Q9 RT9 U9 P9c P9l Q9c Q9l
    have S10c := S10.cell; have S10l := S10.lt; have T10c := T10.cell; have T10l := T10.lt
    go_wp2_with fail
    refine (CZ.out _).mono ?_
    rintro e W11 ⟨rfl, hb⟩
    have HB11 := Below.thn HB10 hb HB10s
    have S11 := S10.below hb; have P11 := P10.below hb; have RS11 := RS10.below hb; have T11 := T10.below hb; have U11 := U10.below hb
    have HB11s := HB11.size
    clear hb HB10 HB10s S10 P10 RS10 T10 U10 S10c S10l T10c T10l
    have U11c := U11.cell; have U11l := U11.lt; have T11c := T11.cell; have T11l := T11.lt
    go_wp2_with fail
    refine (same_true _ _ _ _ _ _).mono ?_
    rintro e W12 ⟨rfl, hb⟩
    have HB12 := Below.thn HB11 hb HB11s
    have S12 := S11.below hb; have P12 := P11.below hb; have RS12 := RS11.below hb
    have HB12s := HB12.size
    clear hb HB11 HB11s S11 P11 RS11 T11 U11 U11c U11l T11c T11l
    have S12c := S12.cell; have S12l := S12.lt
    go_wp2_with fail
    refine (HD1.out _).mono ?_
    rintro e W13 ⟨rfl, hb⟩
    have HB13 := Below.thn HB12 hb HB12s
    have S13 := S12.below hb; have P13 := P12.below hb; have RS13 := RS12.below hb
    have HB13s := HB13.size
    have P13l := P13.lt
    clear hb HB12 HB12s S12 P12 RS12 S12c S12l
    go_upto_region 12 with fail
    refine wp_absQ (fun W => Below w.heap.size w W ∧ Blk W bs #[.int .i64 Sw, .int .i64 Sh, .int .i64 Sx, .int .i64 Sy, .string st] 24 ∧ Blk W (bs + 1) #[.int .i64 Sw, .int .i64 Sh, .int .i64 Sx, .int .i64 Sy, .slice (some ⟨b3, o3, none⟩) Sh c3] 41 ∧ RScrAt W (RV Sw Sh Sx Sy (.slice (some ⟨b3, o3, none⟩) Sh c3)) S ∧ Blk W W13.heap.size #[.int .i64 bb.w, .int .i64 bb.h, .int .i64 bb.x, .int .i64 bb.y, .string (txt bb.b)] 24) ⟨by (repeat (first | (with_reducible assumption) | (with_reducible exact Below.refl _ _) | with_reducible apply bl_drewN | with_reducible apply Below.drew | (with_reducible apply bl_alloc; focus (first | (simp; done) | (simp; omega) | omega)) | (with_reducible apply bl_set; focus (first | (simp; done) | (simp; omega) | omega)))), by (repeat (first | (with_reducible assumption) | (with_reducible apply Blk.new'; (first | (with_reducible rfl) | (simp; done))) | with_reducible apply Blk.alloc | with_reducible apply Blk.set | ((with_reducible apply Blk.set_ne); focus (first | (simp; done) | (simp; omega))) | with_reducible apply Blk.drewN | with_reducible apply Blk.drew)), by (repeat (first | (with_reducible assumption) | (with_reducible apply Blk.new'; (first | (with_reducible rfl) | (simp; done))) | with_reducible apply Blk.alloc | with_reducible apply Blk.set | ((with_reducible apply Blk.set_ne); focus (first | (simp; done) | (simp; omega))) | with_reducible apply Blk.drewN | with_reducible apply Blk.drew)), RS13.below (by (repeat (first | (with_reducible assumption) | (with_reducible exact Below.refl _ _) | with_reducible apply bl_drewN | with_reducible apply Below.drew | (with_reducible apply bl_alloc; focus (first | (simp; done) | (simp; omega) | omega)) | (with_reducible apply bl_set; focus (first | (simp; done) | (simp; omega) | omega))))), by (repeat (first | (with_reducible assumption) | (with_reducible apply Blk.new'; (first | (with_reducible rfl) | (simp; done))) | with_reducible apply Blk.alloc | with_reducible apply Blk.set | ((with_reducible apply Blk.set_ne); focus (first | (simp; done) | (simp; omega))) | with_reducible apply Blk.drewN | with_reducible apply Blk.drew))⟩ (fun W14 h5 => ?_)
    obtain ⟨HB14, S14, P14, RS14, V14⟩ := h5
    have HB14s := HB14.size
    clear HB13 S13 P13 RS13 HB13s P13l
    have P14c := P14.cell; have P14l := P14.lt
    go_wp2_with fail
    refine (HD2.out _ _ RS14).mono ?_
    rintro e W15 ⟨b9, o9, c9, rfl, R9, hb⟩
    have HB15 := Below.thn HB14 hb HB14s
    have S15 := S14.below hb
    have V15 := V14.below hb
    have HB15s := HB15.size
    have V15l := V15.lt; have S15l := S15.lt
    clear hb HB14 S14 P14 RS14 V14 HB14s P14c P14l
    go_upto_region 13 with fail
    refine wp_absQ (fun W => Below w.heap.size w W ∧ Blk W bs #[.int .i64 Sw, .int .i64 Sh, .int .i64 Sx, .int .i64 Sy, .string st] 24 ∧ Blk W W13.heap.size #[.int .i64 bb.w, .int .i64 bb.h, .int .i64 bb.x, .int .i64 bb.y, .string (txt bb.b)] 24 ∧ Blk W W15.heap.size #[.int .i64 bb.w, .int .i64 bb.h, .int .i64 bb.x, .int .i64 bb.y, .slice (some ⟨b9, o9, none⟩) bb.h c9] 41 ∧ RScrAt W (RV bb.w bb.h bb.x bb.y (.slice (some ⟨b9, o9, none⟩) bb.h c9)) bb) ⟨by (repeat (first | (with_reducible assumption) | (with_reducible exact Below.refl _ _) | with_reducible apply bl_drewN | with_reducible apply Below.drew | (with_reducible apply bl_alloc; focus (first | (simp; done) | (simp; omega) | omega)) | (with_reducible apply bl_set; focus (first | (simp; done) | (simp; omega) | omega)))), by (repeat (first | (with_reducible assumption) | (with_reducible apply Blk.new'; (first | (with_reducible rfl) | (simp; done))) | with_reducible apply Blk.alloc | with_reducible apply Blk.set | ((with_reducible apply Blk.set_ne); focus (first | (simp; done) | (simp; omega))) | with_reducible apply Blk.drewN | with_reducible apply Blk.drew)), by (repeat (first | (with_reducible assumption) | (with_reducible apply Blk.new'; (first | (with_reducible rfl) | (simp; done))) | with_reducible apply Blk.alloc | with_reducible apply Blk.set | ((with_reducible apply Blk.set_ne); focus (first | (simp; done) | (simp; omega))) | with_reducible apply Blk.drewN | with_reducible apply Blk.drew)), by (repeat (first | (with_reducible assumption) | (with_reducible apply Blk.new'; (first | (with_reducible rfl) | (simp; done))) | with_reducible apply Blk.alloc | with_reducible apply Blk.set | ((with_reducible apply Blk.set_ne); focus (first | (simp; done) | (simp; omega))) | with_reducible apply Blk.drewN | with_reducible apply Blk.drew)), R9.below (by (repeat (first | (with_reducible assumption) | (with_reducible exact Below.refl _ _) | with_reducible apply bl_drewN | with_reducible apply Below.drew | (with_reducible apply bl_alloc; focus (first | (simp; done) | (simp; omega) | omega)) | (with_reducible apply bl_set; focus (first | (simp; done) | (simp; omega) | omega)))))⟩ (fun W16 h5 => ?_)
    obtain ⟨HB16, S16, V16, X16, R16⟩ := h5
    have HB16s := HB16.size
    have V16c := V16.cell; have V16l := V16.lt; have X16c := X16.cell; have X16l := X16.lt
    go_wp2_with fail
    refine (HD3.out _ _ R16).mono ?_
    rintro e W17 ⟨rfl, hb⟩
    have HB17 := Below.thn HB16 hb HB16s
    have S17 := S16.below hb; have V17 := V16.below hb
    have HB17s := HB17.size
    clear hb HB16 HB16s S16 V16 X16 R16 V16c V16l X16c X16l
    have V17c := V17.cell; have V17l := V17.lt; have S17c := S17.cell; have S17l := S17.lt
    go_wp2_with fail
    refine (HD4.out _).mono ?_
    rintro e W18 ⟨rfl, hb⟩
    have HB18 := Below.thn HB17 hb HB17s
    go_wp2_with fail
    go_ret
    exact ⟨rfl, HB18⟩
end Go.Proofs.Ytgdmeaoghhkknaa
