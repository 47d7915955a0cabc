/- The chapter's example. -/
import Derived.Test.YtpnbmfpdoipioaaSnd6
import Derived.Test.YtpnbmfpdoipioaaWord3
namespace Go.Proofs.Ytpnbmfpdoipioaa
open Go.RowKit

theorem SenderAt.form {w : World} {v : Value} {l : List SSt} {now : ByteArray} {last : Nat} (h : SenderAt w v l now last) : ∃ a n c, v = SV (.slice a n c) now last := by
  obtain ⟨b, off, cap, h1, _⟩ := h; exact ⟨_, _, _, h1⟩
theorem sq_any (v : Value) (last : Nat) (l : List SSt) (now : ByteArray) (w : World) (S : SenderAt w v l now last) : Calls Try.prog 15 #[v] w fun e w' => e = .returned (.bool (quietB l now)) ∧ Below w.heap.size w w' := by
  obtain ⟨b, off, cap, rfl, _, _, L, _⟩ := S; exact quiet_any b off cap last l now w L
theorem snum_any (v : Value) (last : Nat) (l : List SSt) (now : ByteArray) (w : World) (S : SenderAt w v l now last) : Calls Try.prog 13 #[v] w fun e w' => NumsPost l w e w' := by
  obtain ⟨b, off, cap, rfl, _, _, L, _⟩ := S; exact numbers_any b off cap last l now w L
theorem sdue_any (v : Value) (last wait beat : Nat) (l : List SSt) (now : ByteArray) (w : World) (S : SenderAt w v l now last) (hw : wait ≤ 18446744073709551615) (hb : beat ≤ 18446744073709551615) :
    Calls Try.prog 16 #[v, .int .u64 wait, .int .u64 beat] w fun e w' => e = .returned (.int .u64 (dueU l now last wait beat : Nat)) ∧ Below w.heap.size w w' := by
  obtain ⟨b, off, cap, rfl, _, _, L, h1, _⟩ := S; exact due_any b off cap last wait beat l now w L h1 hw hb
theorem run_eql_instr (a b c d : Int) (s : ByteArray) (w : World) : (binOp .eql 38 (IV a b c d s) (IV a b c d s)).run Try.prog w = .ok (.bool true) w := by
  simp [go_sem, Program.fieldsOf, Try.underlying38, Try.underlying29, Try.underlying9]

set_option maxHeartbeats 2000000 in
set_option maxRecDepth 20000 in
theorem awake15 (w : World) : Calls Try.prog 8 #[] w fun e w' => e = .returned (.bool true) ∧ Below w.heap.size w w' := by
  have e1 : nextL [⟨0, 0, ⟨#[97]⟩⟩] ⟨#[98]⟩ 3 = [⟨0, 0, ⟨#[97]⟩⟩, ⟨1, 3, ⟨#[98]⟩⟩] := by rfl
  have e2 : dueU [⟨0, 0, ⟨#[97]⟩⟩] ⟨#[98]⟩ 0 10 100 = 0 := by rfl
  have e3 : quietB [⟨0, 0, ⟨#[97]⟩⟩] ⟨#[97]⟩ = true := by rfl
  have e4 : quietB [⟨0, 0, ⟨#[97]⟩⟩, ⟨1, 3, ⟨#[98]⟩⟩] ⟨#[98]⟩ = false := by rfl
  have e5 : ackL [⟨0, 0, ⟨#[97]⟩⟩, ⟨1, 3, ⟨#[98]⟩⟩] 1 = [⟨1, 3, ⟨#[98]⟩⟩] := by rfl
  have e6 : quietB [⟨1, 3, ⟨#[98]⟩⟩] ⟨#[98]⟩ = true := by rfl
  have e7 : (⟨#[97]⟩ : ByteArray) ++ ⟨#[62]⟩ ++ ⟨#[98]⟩ = ⟨#[97, 62, 98]⟩ := by rfl
  have E1 := Lib.hid e1; have E3 := Lib.hid e3; have E4 := Lib.hid e4; have E5 := Lib.hid e5; have E6 := Lib.hid e6; have E7 := Lib.hid e7; have E2 := Lib.hid e2
  clear e1 e2 e3 e4 e5 e6 e7
  go_enter Try.func8, Try.ntmps8
  go_wp2_with fail
  refine (rule_any _).mono ?_
  rintro e w1 ⟨rfl, HB1⟩
  have HBs1 := HB1.size
  go_wp2_with fail
  refine (new_any ⟨#[97]⟩ _ (by decide)).mono ?_
  rintro e w2 ⟨v, rfl, S2, hb⟩
  have HB2 := Below.thn HB1 hb HBs1
  have HBs2 := HB2.size
  obtain ⟨sa, sn, sc, hsl⟩ := S2.form
  subst hsl
  clear HB1 hb
  go_wp2_with fail
  refine (snum_any _ _ _ _ _ (S2.below (by (repeat (first | (with_reducible assumption) | (with_reducible exact Below.refl _ _) | with_reducible apply bl_drewN | with_reducible apply Below.drew | (with_reducible apply bl_alloc; focus (first | (simp; done) | (simp; omega) | omega)) | (with_reducible apply bl_set; focus (first | (simp; done) | (simp; omega) | omega))))))).mono ?_
  rintro e w3 ⟨vn, rfl, hn, hb⟩
  obtain ⟨na, nc, rfl⟩ := own_slice hn
  have hb' : Below w2.heap.size w2 w3 := Below.thn (by (repeat (first | (with_reducible assumption) | (with_reducible exact Below.refl _ _) | with_reducible apply bl_drewN | with_reducible apply Below.drew | (with_reducible apply bl_alloc; focus (first | (simp; done) | (simp; omega) | omega)) | (with_reducible apply bl_set; focus (first | (simp; done) | (simp; omega) | omega))))) hb
  have B3 := Blk.below (b := w2.heap.size) (t := 31) (by (repeat (first | (with_reducible assumption) | (with_reducible apply Blk.new'; (first | (with_reducible rfl) | (simp; done))) | with_reducible apply Blk.alloc | with_reducible apply Blk.set | ((with_reducible apply Blk.set_ne); focus (first | (simp; done) | (simp; omega))) | with_reducible apply Blk.drewN | with_reducible apply Blk.drew))) hb
  have S3 := S2.below hb'
  have HB3 := Below.thn HB2 hb' HBs2
  have HBs3 := HB3.size
  clear hn hb hb' S2 HB2
  go_wp2_with fail
  refine (awake28 _).mono ?_
  rintro e w4 ⟨rfl, hb⟩
  have B4 := B3.below hb
  have S4 := S3.below hb
  have HB4 := Below.thn HB3 hb HBs3
  have HBs4 := HB4.size
  have B4c := B4.cell; have B4l := B4.lt
  clear hb B3 S3 HB3
  go_wp2_with fail
  refine (set_any _ _ _ ⟨#[98]⟩ _ _ S4 (by decide)).mono ?_
  rintro e w5 ⟨v5, rfl, S5, hb⟩
  obtain ⟨a5, n5, c5, h5⟩ := S5.form
  subst h5
  have B5 := B4.below hb
  have S4' := S4.below hb
  have HB5 := Below.thn HB4 hb HBs4
  have HBs5 := HB5.size
  clear hb B4 B4c S4 HB4
  go_wp2_with fail
  refine (next_ok _ _ _ _ 3 10 100 7 _ S5 (by decide) (by decide) (by decide) (by decide) (by rw [E2.out]; decide)).mono ?_
  rintro e w6 ⟨v6, rfl, S6, hb⟩
  rw [E1.out] at S6
  have e8 : topS [⟨0, 0, ⟨#[97]⟩⟩, ⟨1, 3, ⟨#[98]⟩⟩] = ⟨1, 3, ⟨#[98]⟩⟩ := by rfl
  rw [E1.out, e8]
  have e9 : ([⟨0, 0, ⟨#[97]⟩⟩, ⟨1, 3, ⟨#[98]⟩⟩] : List SSt).getD 0 default = ⟨0, 0, ⟨#[97]⟩⟩ := by rfl
  rw [e9]
  dsimp only
  rw [E7.out]
  clear e8 e9
  obtain ⟨a6, n6, c6, h6⟩ := S6.form
  subst h6
  have B6 := B5.below hb
  have S6' := S4'.below hb
  have HB6 := Below.thn HB5 hb HBs5
  have HBs6 := HB6.size
  have B6c := B6.cell; have B6l := B6.lt
  clear hb B5 S5 S4' HB5
  go_wp2_with fail
  refine (sq_any _ _ _ _ _ (S6'.below (by (repeat (first | (with_reducible assumption) | (with_reducible exact Below.refl _ _) | with_reducible apply bl_drewN | with_reducible apply Below.drew | (with_reducible apply bl_alloc; focus (first | (simp; done) | (simp; omega) | omega)) | (with_reducible apply bl_set; focus (first | (simp; done) | (simp; omega) | omega))))))).mono ?_
  rintro e w7 ⟨rfl, hb⟩
  rw [E3.out]
  have hb' : Below w6.heap.size w6 w7 := Below.thn (by (repeat (first | (with_reducible assumption) | (with_reducible exact Below.refl _ _) | with_reducible apply bl_drewN | with_reducible apply Below.drew | (with_reducible apply bl_alloc; focus (first | (simp; done) | (simp; omega) | omega)) | (with_reducible apply bl_set; focus (first | (simp; done) | (simp; omega) | omega))))) hb
  have B7a := Blk.below (b := w6.heap.size) (t := 31) (by (repeat (first | (with_reducible assumption) | (with_reducible apply Blk.new'; (first | (with_reducible rfl) | (simp; done))) | with_reducible apply Blk.alloc | with_reducible apply Blk.set | ((with_reducible apply Blk.set_ne); focus (first | (simp; done) | (simp; omega))) | with_reducible apply Blk.drewN | with_reducible apply Blk.drew))) hb
  have B7b := Blk.below (b := w6.heap.size + 1) (t := 38) (by (repeat (first | (with_reducible assumption) | (with_reducible apply Blk.new'; (first | (with_reducible rfl) | (simp; done))) | with_reducible apply Blk.alloc | with_reducible apply Blk.set | ((with_reducible apply Blk.set_ne); focus (first | (simp; done) | (simp; omega))) | with_reducible apply Blk.drewN | with_reducible apply Blk.drew))) hb
  have S7 := S6.below hb'
  have HB7 := Below.thn HB6 hb' HBs6
  have HBs7 := HB7.size
  have B7ac := B7a.cell; have B7bc := B7b.cell
  have hq := run_eql_instr 0 1 7 0 ⟨#[97, 62, 98]⟩
  clear hb hb' B6 B6c S6 S6' HB6
  go_wp2_with fail
  refine (sq_any _ _ _ _ _ S7).mono ?_
  rintro e w8 ⟨rfl, hb⟩
  rw [E4.out]
  have B8 := B7a.below hb
  have S8 := S7.below hb
  have HB8 := Below.thn HB7 hb HBs7
  have HBs8 := HB8.size
  have B8c := B8.cell
  clear hb B7a B7b B7ac B7bc S7 HB7
  go_wp2_with fail
  refine (acked_any _ _ 1 _ _ _ S8).mono ?_
  rintro e w9 ⟨v9, rfl, S9, hb⟩
  rw [E5.out] at S9
  have HB9 := Below.thn HB8 hb HBs8
  have HBs9 := HB9.size
  clear hb B8 B8c S8 HB8
  go_wp2_with fail
  refine (sq_any _ _ _ _ _ S9).mono ?_
  rintro e w10 ⟨rfl, hb⟩
  rw [E6.out]
  go_wp2
  go_ret
  exact ⟨rfl, Below.thn HB9 hb HBs9⟩
end Go.Proofs.Ytpnbmfpdoipioaa
