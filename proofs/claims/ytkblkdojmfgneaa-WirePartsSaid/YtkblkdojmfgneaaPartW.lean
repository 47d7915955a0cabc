/- WireParts: the walk. -/
import Derived.Test.YtkblkdojmfgneaaAwk9
namespace Go.Proofs.Ytkblkdojmfgneaa
open Go.RowKit
theorem pbytes_any (st rp nb : Nat) (ix : Int) (la : Bool) (tx : ByteArray) (h1 : st ≤ 65535) (h2 : rp ≤ 65535) (h3 : nb ≤ 18446744073709551615) (w : World) :
    Calls Try.prog 37 #[PV st rp nb ix la tx] w fun e w' => e = .returned (.tuple #[.string (pbB st rp nb ix la tx), .int .i64 (chk ix tx : Nat)]) ∧ Below w.heap.size w w' := by
  unfold pbB
  cases hz : chk ix tx with
  | zero =>
    rw [if_pos rfl]
    rcases chk_cases ix tx with ⟨_, e⟩ | ⟨_, _, _, e⟩ | ⟨q1, q2, q3, _⟩
    · rw [e] at hz; exact absurd hz (by decide)
    · rw [e] at hz; exact absurd hz (by decide)
    · obtain ⟨n, rfl⟩ : ∃ n : Nat, ix = n := ⟨ix.toNat, by omega⟩
      rw [Int.toNat_natCast]
      exact pbytes_ok st rp nb n la tx (by omega) (by omega) h3 (by omega) q3 w
  | succ e =>
    rw [if_neg (by omega)]
    exact pbytes_bad st rp nb e ix la tx hz w
theorem rbytes_gen (st rp nb : Nat) (ix : Int) (la : Bool) (tx : ByteArray) (h1 : st ≤ 65535) (h2 : rp ≤ 65535) (h3 : nb ≤ 18446744073709551615) (hz : chk ix tx = 0) (w : World) :
    Calls Try.prog 39 #[PV st rp nb ix la tx] w fun e w' => e = .returned (.string (pbB st rp nb ix la tx)) ∧ Below w.heap.size w w' := by
  unfold pbB
  rw [if_pos hz]
  rcases chk_cases ix tx with ⟨_, e⟩ | ⟨_, _, _, e⟩ | ⟨q1, q2, q3, _⟩
  · rw [e] at hz; exact absurd hz (by decide)
  · rw [e] at hz; exact absurd hz (by decide)
  · obtain ⟨n, rfl⟩ : ∃ n : Nat, ix = n := ⟨ix.toNat, by omega⟩
    rw [Int.toNat_natCast]
    exact rbytes_any st rp nb n la tx (by omega) (by omega) h3 (by omega) q3 w
theorem rErr_part (st rp nb n : Nat) (la : Bool) (tx : ByteArray) (q2 : (n : Int) < 32) (q3 : tx.size ≤ 466) : rErr (partB st rp nb n la tx) = 0 := by
  unfold rErr
  rw [partB_size, if_neg (by omega), rIx_partB _ _ _ _ _ _ (by omega), rTx_partB]
  exact chk_ok (by omega) q2 q3
theorem read_back (st rp nb : Nat) (ix : Int) (la : Bool) (tx : ByteArray) (h1 : st ≤ 65535) (h2 : rp ≤ 65535) (h3 : nb ≤ 18446744073709551615) (hz : chk ix tx = 0) (w : World) :
    Calls Try.prog 40 #[.string (pbB st rp nb ix la tx)] w fun e w' => e = .returned (.tuple #[PV st rp nb ix la tx, .int .i64 0]) ∧ Below w.heap.size w w' := by
  unfold pbB
  rw [if_pos hz]
  rcases chk_cases ix tx with ⟨_, e⟩ | ⟨_, _, _, e⟩ | ⟨q1, q2, q3, _⟩
  · rw [e] at hz; exact absurd hz (by decide)
  · rw [e] at hz; exact absurd hz (by decide)
  · obtain ⟨n, rfl⟩ : ∃ n : Nat, ix = n := ⟨ix.toNat, by omega⟩
    rw [Int.toNat_natCast]
    have h5 := read_any (partB st rp nb n la tx) (by rw [partB_size]; omega) (by rw [partB_size]; omega) w
    unfold rdV at h5
    rw [rErr_part _ _ _ _ _ _ q2 q3, if_pos rfl, rSt_partB _ _ _ _ _ _ (by omega), rRp_partB _ _ _ _ _ _ (by omega), rNb_partB _ _ _ _ _ _ (by omega), rIx_partB _ _ _ _ _ _ (by omega), rLa_partB _ _ _ _ _ _ (by omega), rTx_partB] at h5
    exact h5
theorem read_all (s : ByteArray) (hs : s.size ≤ 10000) (w : World) :
    Calls Try.prog 40 #[.string s] w fun z w' => z = .returned (.tuple #[rdV s, .int .i64 (rErr s : Nat)]) ∧ Below w.heap.size w w' := by
  by_cases h : s.size < 14
  · have e : rErr s = 3 := by unfold rErr; rw [if_pos h]
    unfold rdV
    rw [e, if_neg (by decide)]
    exact read_short s h w
  · exact read_any s (by omega) hs w
theorem rread_all (s : ByteArray) (hs : s.size ≤ 10000) (w : World) :
    Calls Try.prog 41 #[.string s] w fun z w' => z = .returned (.tuple #[rdV s, .int .i64 (rErr s : Nat)]) ∧ Below w.heap.size w w' := by
  by_cases h : s.size < 14
  · have e : rErr s = 3 := by unfold rErr; rw [if_pos h]
    unfold rdV
    rw [e, if_neg (by decide)]
    exact rread_short s h w
  · exact rread_any s (by omega) hs w
theorem rErr_ok (s : ByteArray) (h : rErr s = 0) : 14 ≤ s.size ∧ rIx s < 32 ∧ (rTx s).size ≤ 466 := by
  unfold rErr at h
  split at h
  · exact absurd h (by decide)
  · rcases chk_cases (rIx s : Int) (rTx s) with ⟨_, e⟩ | ⟨_, _, _, e⟩ | ⟨q1, q2, q3, _⟩
    · rw [e] at h; exact absurd h (by decide)
    · rw [e] at h; exact absurd h (by decide)
    · exact ⟨by omega, by omega, q3⟩
set_option maxHeartbeats 16000000 in
set_option maxRecDepth 20000 in
theorem wparts_walk (st rp nb : Nat) (ix : Int) (la : Bool) (tx s : ByteArray) (h1 : st ≤ 65535) (h2 : rp ≤ 65535) (h3 : nb ≤ 18446744073709551615) (hm : max tx.size s.size ≤ 600) (w : World) :
    Calls Try.prog 10 #[PV st rp nb ix la tx, .string s] w fun e w' => e = .returned (.bool true) ∧ Below w.heap.size w w' := by
  have g1 : ¬ (600 : Int) < max (tx.size : Int) (s.size : Int) := by omega
  have pb := fun W => pbytes_any st rp nb ix la tx h1 h2 h3 W
  have ck := fun W => rcheck_any st rp nb ix la tx W
  have hrb := fun hz => fun W => rbytes_gen st rp nb ix la tx h1 h2 h3 hz W
  have hrk := fun hz => fun W => read_back st rp nb ix la tx h1 h2 h3 hz W
  have hT0 : ¬ chk ix tx = 0 → pbB st rp nb ix la tx = ⟨#[]⟩ := fun h => by unfold pbB; rw [if_neg h]
  have rd := fun W => read_all s (by omega) W
  have rr := fun W => rread_all s (by omega) W
  obtain ⟨T, hT⟩ : ∃ T, pbB st rp nb ix la tx = T := ⟨_, rfl⟩
  rw [hT] at pb hrb hrk hT0
  obtain ⟨z, hz⟩ : ∃ z, chk ix tx = z := ⟨_, rfl⟩
  rw [hz] at pb ck hrb hrk hT0
  have PB := Lib.hid pb; have CK := Lib.hid ck
  clear pb ck hT hz
  unfold rdV at rd rr
  by_cases hy : rErr s = 0
  · rw [if_pos hy, hy, show ((0 : Nat) : Int) = 0 from rfl] at rd rr
    obtain ⟨k1, k2, k3⟩ := rErr_ok s hy
    have q0 := rSt_lt s k1; have q1 := rRp_lt s k1; have q2 := rNb_lt s k1
    have ps := fun W => pbytes_ok (rSt s) (rRp s) (rNb s) (rIx s) (rLa s) (rTx s) q0 q1 (by omega) k2 k3 W
    rw [part_read s k1] at ps
    obtain ⟨st2, hst⟩ : ∃ x, rSt s = x := ⟨_, rfl⟩
    obtain ⟨rp2, hrp⟩ : ∃ x, rRp s = x := ⟨_, rfl⟩
    obtain ⟨nb2, hnb⟩ : ∃ x, rNb s = x := ⟨_, rfl⟩
    obtain ⟨ix2, hix⟩ : ∃ x, rIx s = x := ⟨_, rfl⟩
    obtain ⟨la2, hla⟩ : ∃ x, rLa s = x := ⟨_, rfl⟩
    obtain ⟨tx2, htx⟩ : ∃ x, rTx s = x := ⟨_, rfl⟩
    rw [hst, hrp, hnb, hix, hla, htx] at rd rr ps
    have RD := Lib.hid rd; have RR := Lib.hid rr; have PS := Lib.hid ps
    clear rd rr ps hst hrp hnb hix hla htx k1 k2 k3 q0 q1 q2 hy
    by_cases hz0 : z = 0
    · have rb := hrb hz0; have rk := hrk hz0
      have RB := Lib.hid rb; have RK := Lib.hid rk
      clear rb rk hrb hrk hT0
      subst hz0
      go_enter Try.func10, Try.ntmps10
      go_wp2_with fail
      refine (awake09_any _).mono ?_
      rintro e W1 ⟨rfl, hb⟩
      have HB1 : Below w.heap.size w W1 := Below.thn (by (repeat (first | (with_reducible assumption) | (with_reducible exact Below.refl _ _) | with_reducible apply bl_drewN | with_reducible apply Below.drew | (with_reducible apply bl_alloc; focus (first | (simp; done) | (simp; omega) | omega)) | (with_reducible apply bl_set; focus (first | (simp; done) | (simp; omega) | omega))))) hb
      have B1 : Blk W1 w.heap.size (PC st rp nb ix la tx) 70 := Blk.below (Blk.new _ _ _) hb
      have B1c := B1.cell
      clear hb
      go_wp2_with fail
      refine (PB.out _).mono ?_
      rintro e W2 ⟨rfl, hb⟩
      have HB2 := Below.thn HB1 hb HB1.size
      have HBs2 := HB2.size
      have B2 := B1.below hb
      clear B1c
      have B2c := B2.cell
      clear hb HB1 B1
      go_wp2_with fail
      refine (CK.out _).mono ?_
      rintro e W3 ⟨rfl, hb⟩
      have HB3 := Below.thn HB2 hb HB2.size
      have HBs3 := HB3.size
      have B3 := B2.below hb
      clear B2c
      have B3c := B3.cell
      clear hb HB2 B2
      go_wp2_with fail
      refine (RB.out _).mono ?_
      rintro e W4 ⟨rfl, hb⟩
      have HB4 := Below.thn HB3 hb HB3.size
      have HBs4 := HB4.size
      have B4 := B3.below hb
      clear B3c
      have B4c := B4.cell
      clear hb HB3 B3
      go_wp2_with fail
      refine (RK.out _).mono ?_
      rintro e W5 ⟨rfl, hb⟩
      have HB5 := Below.thn HB4 hb HB4.size
      have HBs5 := HB5.size
      have B5 := B4.below hb
      clear B4c
      have B5c := B5.cell
      clear hb HB4 B4
      have B5l := B5.lt
      go_wp2_with fail
      refine (RD.out _).mono ?_
      rintro e W6 ⟨rfl, hb⟩
      have HB6 : Below w.heap.size w W6 := Below.thn (by (repeat (first | (with_reducible assumption) | (with_reducible exact Below.refl _ _) | with_reducible apply bl_drewN | with_reducible apply Below.drew | (with_reducible apply bl_alloc; focus (first | (simp; done) | (simp; omega) | omega)) | (with_reducible apply bl_set; focus (first | (simp; done) | (simp; omega) | omega))))) hb
      have HB6s := HB6.size
      clear hb
      go_wp2_with fail
      refine (RR.out _).mono ?_
      rintro e W7 ⟨rfl, hb⟩
      have HB7 : Below w.heap.size w W7 := Below.thn (by (repeat (first | (with_reducible assumption) | (with_reducible exact Below.refl _ _) | with_reducible apply bl_drewN | with_reducible apply Below.drew | (with_reducible apply bl_alloc; focus (first | (simp; done) | (simp; omega) | omega)) | (with_reducible apply bl_set; focus (first | (simp; done) | (simp; omega) | omega))))) hb
      have X7 : Blk W7 W6.heap.size (PC st2 rp2 nb2 (ix2 : Int) la2 tx2) 70 := Blk.below ((Blk.new _ _ _).conv rfl) hb
      have X7c := X7.cell; have X7l := X7.lt; have HB7s := HB7.size
      clear hb
      go_wp2_with fail
      refine (PS.out _).mono ?_
      rintro e W8 ⟨rfl, hb⟩
      have HB8 : Below w.heap.size w W8 := Below.thn (by (repeat (first | (with_reducible assumption) | (with_reducible exact Below.refl _ _) | with_reducible apply bl_drewN | with_reducible apply Below.drew | (with_reducible apply bl_alloc; focus (first | (simp; done) | (simp; omega) | omega)) | (with_reducible apply bl_set; focus (first | (simp; done) | (simp; omega) | omega))))) hb
      clear hb
      go_wp2_with fail
      go_ret
      exact ⟨rfl, HB8⟩
    · have hzi : ¬ (z : Int) = 0 := by omega
      obtain rfl := hT0 hz0
      clear hrb hrk hz0 hT0
      go_enter Try.func10, Try.ntmps10
      go_wp2_with fail
      refine (awake09_any _).mono ?_
      rintro e W1 ⟨rfl, hb⟩
      have HB1 : Below w.heap.size w W1 := Below.thn (by (repeat (first | (with_reducible assumption) | (with_reducible exact Below.refl _ _) | with_reducible apply bl_drewN | with_reducible apply Below.drew | (with_reducible apply bl_alloc; focus (first | (simp; done) | (simp; omega) | omega)) | (with_reducible apply bl_set; focus (first | (simp; done) | (simp; omega) | omega))))) hb
      have B1 : Blk W1 w.heap.size (PC st rp nb ix la tx) 70 := Blk.below (Blk.new _ _ _) hb
      have B1c := B1.cell
      clear hb
      go_wp2_with fail
      refine (PB.out _).mono ?_
      rintro e W2 ⟨rfl, hb⟩
      have HB2 := Below.thn HB1 hb HB1.size
      have HBs2 := HB2.size
      have B2 := B1.below hb
      clear B1c
      have B2c := B2.cell
      clear hb HB1 B1
      go_wp2_with fail
      refine (CK.out _).mono ?_
      rintro e W3 ⟨rfl, hb⟩
      have HB3 := Below.thn HB2 hb HB2.size
      have HBs3 := HB3.size
      have B3 := B2.below hb
      clear B2c
      have B3c := B3.cell
      clear hb HB2 B2
      go_wp2_with fail
      refine (RD.out _).mono ?_
      rintro e W6 ⟨rfl, hb⟩
      have HB6 : Below w.heap.size w W6 := Below.thn (by (repeat (first | (with_reducible assumption) | (with_reducible exact Below.refl _ _) | with_reducible apply bl_drewN | with_reducible apply Below.drew | (with_reducible apply bl_alloc; focus (first | (simp; done) | (simp; omega) | omega)) | (with_reducible apply bl_set; focus (first | (simp; done) | (simp; omega) | omega))))) hb
      have HB6s := HB6.size
      clear hb
      go_wp2_with fail
      refine (RR.out _).mono ?_
      rintro e W7 ⟨rfl, hb⟩
      have HB7 : Below w.heap.size w W7 := Below.thn (by (repeat (first | (with_reducible assumption) | (with_reducible exact Below.refl _ _) | with_reducible apply bl_drewN | with_reducible apply Below.drew | (with_reducible apply bl_alloc; focus (first | (simp; done) | (simp; omega) | omega)) | (with_reducible apply bl_set; focus (first | (simp; done) | (simp; omega) | omega))))) hb
      have X7 : Blk W7 W6.heap.size (PC st2 rp2 nb2 (ix2 : Int) la2 tx2) 70 := Blk.below ((Blk.new _ _ _).conv rfl) hb
      have X7c := X7.cell; have X7l := X7.lt; have HB7s := HB7.size
      clear hb
      go_wp2_with fail
      refine (PS.out _).mono ?_
      rintro e W8 ⟨rfl, hb⟩
      have HB8 : Below w.heap.size w W8 := Below.thn (by (repeat (first | (with_reducible assumption) | (with_reducible exact Below.refl _ _) | with_reducible apply bl_drewN | with_reducible apply Below.drew | (with_reducible apply bl_alloc; focus (first | (simp; done) | (simp; omega) | omega)) | (with_reducible apply bl_set; focus (first | (simp; done) | (simp; omega) | omega))))) hb
      clear hb
      go_wp2_with fail
      go_ret
      exact ⟨rfl, HB8⟩
  · rw [if_neg hy] at rd rr
    obtain ⟨y, hyy⟩ : ∃ y, rErr s = y := ⟨_, rfl⟩
    rw [hyy] at rd rr hy
    have hyi : ¬ (y : Int) = 0 := by omega
    have ps := fun W => pbytes_ok 0 0 0 0 false ⟨#[]⟩ (by decide) (by decide) (by decide) (by decide) (by decide) W
    obtain ⟨U, hU⟩ : ∃ U, partB 0 0 0 0 false ⟨#[]⟩ = U := ⟨_, rfl⟩
    rw [hU] at ps
    have rd2 : ∀ W, Calls Try.prog 40 #[.string s] W fun z w' => z = .returned (.tuple #[.agg #[.int .u16 0, .int .u16 0, .int .u64 0, .int .i64 0, .bool false, .string ⟨#[]⟩], .int .i64 (y : Int)]) ∧ Below W.heap.size W w' := rd
    have rr2 : ∀ W, Calls Try.prog 41 #[.string s] W fun z w' => z = .returned (.tuple #[.agg #[.int .u16 0, .int .u16 0, .int .u64 0, .int .i64 0, .bool false, .string ⟨#[]⟩], .int .i64 (y : Int)]) ∧ Below W.heap.size W w' := rr
    have RD := Lib.hid rd2; have RR := Lib.hid rr2; have PS := Lib.hid ps
    clear rd rr rd2 rr2 ps hU hyy hy
    by_cases hz0 : z = 0
    · have rb := hrb hz0; have rk := hrk hz0
      have RB := Lib.hid rb; have RK := Lib.hid rk
      clear rb rk hrb hrk hT0
      subst hz0
      go_enter Try.func10, Try.ntmps10
      go_wp2_with fail
      refine (awake09_any _).mono ?_
      rintro e W1 ⟨rfl, hb⟩
      have HB1 : Below w.heap.size w W1 := Below.thn (by (repeat (first | (with_reducible assumption) | (with_reducible exact Below.refl _ _) | with_reducible apply bl_drewN | with_reducible apply Below.drew | (with_reducible apply bl_alloc; focus (first | (simp; done) | (simp; omega) | omega)) | (with_reducible apply bl_set; focus (first | (simp; done) | (simp; omega) | omega))))) hb
      have B1 : Blk W1 w.heap.size (PC st rp nb ix la tx) 70 := Blk.below (Blk.new _ _ _) hb
      have B1c := B1.cell
      clear hb
      go_wp2_with fail
      refine (PB.out _).mono ?_
      rintro e W2 ⟨rfl, hb⟩
      have HB2 := Below.thn HB1 hb HB1.size
      have HBs2 := HB2.size
      have B2 := B1.below hb
      clear B1c
      have B2c := B2.cell
      clear hb HB1 B1
      go_wp2_with fail
      refine (CK.out _).mono ?_
      rintro e W3 ⟨rfl, hb⟩
      have HB3 := Below.thn HB2 hb HB2.size
      have HBs3 := HB3.size
      have B3 := B2.below hb
      clear B2c
      have B3c := B3.cell
      clear hb HB2 B2
      go_wp2_with fail
      refine (RB.out _).mono ?_
      rintro e W4 ⟨rfl, hb⟩
      have HB4 := Below.thn HB3 hb HB3.size
      have HBs4 := HB4.size
      have B4 := B3.below hb
      clear B3c
      have B4c := B4.cell
      clear hb HB3 B3
      go_wp2_with fail
      refine (RK.out _).mono ?_
      rintro e W5 ⟨rfl, hb⟩
      have HB5 := Below.thn HB4 hb HB4.size
      have HBs5 := HB5.size
      have B5 := B4.below hb
      clear B4c
      have B5c := B5.cell
      clear hb HB4 B4
      have B5l := B5.lt
      go_wp2_with fail
      refine (RD.out _).mono ?_
      rintro e W6 ⟨rfl, hb⟩
      have HB6 : Below w.heap.size w W6 := Below.thn (by (repeat (first | (with_reducible assumption) | (with_reducible exact Below.refl _ _) | with_reducible apply bl_drewN | with_reducible apply Below.drew | (with_reducible apply bl_alloc; focus (first | (simp; done) | (simp; omega) | omega)) | (with_reducible apply bl_set; focus (first | (simp; done) | (simp; omega) | omega))))) hb
      have HB6s := HB6.size
      clear hb
      go_wp2_with fail
      refine (RR.out _).mono ?_
      rintro e W7 ⟨rfl, hb⟩
      have HB7 : Below w.heap.size w W7 := Below.thn (by (repeat (first | (with_reducible assumption) | (with_reducible exact Below.refl _ _) | with_reducible apply bl_drewN | with_reducible apply Below.drew | (with_reducible apply bl_alloc; focus (first | (simp; done) | (simp; omega) | omega)) | (with_reducible apply bl_set; focus (first | (simp; done) | (simp; omega) | omega))))) hb
      have X7 : Blk W7 W6.heap.size (PC 0 0 0 0 false ⟨#[]⟩) 70 := Blk.below ((Blk.new _ _ _).conv rfl) hb
      have X7c := X7.cell; have X7l := X7.lt; have HB7s := HB7.size
      clear hb
      go_wp2_with fail
      refine (PS.out _).mono ?_
      rintro e W8 ⟨rfl, hb⟩
      have HB8 : Below w.heap.size w W8 := Below.thn (by (repeat (first | (with_reducible assumption) | (with_reducible exact Below.refl _ _) | with_reducible apply bl_drewN | with_reducible apply Below.drew | (with_reducible apply bl_alloc; focus (first | (simp; done) | (simp; omega) | omega)) | (with_reducible apply bl_set; focus (first | (simp; done) | (simp; omega) | omega))))) hb
      clear hb
      go_wp2_with fail
      go_ret
      exact ⟨rfl, HB8⟩
    · have hzi : ¬ (z : Int) = 0 := by omega
      obtain rfl := hT0 hz0
      clear hrb hrk hz0 hT0
      go_enter Try.func10, Try.ntmps10
      go_wp2_with fail
      refine (awake09_any _).mono ?_
      rintro e W1 ⟨rfl, hb⟩
      have HB1 : Below w.heap.size w W1 := Below.thn (by (repeat (first | (with_reducible assumption) | (with_reducible exact Below.refl _ _) | with_reducible apply bl_drewN | with_reducible apply Below.drew | (with_reducible apply bl_alloc; focus (first | (simp; done) | (simp; omega) | omega)) | (with_reducible apply bl_set; focus (first | (simp; done) | (simp; omega) | omega))))) hb
      have B1 : Blk W1 w.heap.size (PC st rp nb ix la tx) 70 := Blk.below (Blk.new _ _ _) hb
      have B1c := B1.cell
      clear hb
      go_wp2_with fail
      refine (PB.out _).mono ?_
      rintro e W2 ⟨rfl, hb⟩
      have HB2 := Below.thn HB1 hb HB1.size
      have HBs2 := HB2.size
      have B2 := B1.below hb
      clear B1c
      have B2c := B2.cell
      clear hb HB1 B1
      go_wp2_with fail
      refine (CK.out _).mono ?_
      rintro e W3 ⟨rfl, hb⟩
      have HB3 := Below.thn HB2 hb HB2.size
      have HBs3 := HB3.size
      have B3 := B2.below hb
      clear B2c
      have B3c := B3.cell
      clear hb HB2 B2
      go_wp2_with fail
      refine (RD.out _).mono ?_
      rintro e W6 ⟨rfl, hb⟩
      have HB6 : Below w.heap.size w W6 := Below.thn (by (repeat (first | (with_reducible assumption) | (with_reducible exact Below.refl _ _) | with_reducible apply bl_drewN | with_reducible apply Below.drew | (with_reducible apply bl_alloc; focus (first | (simp; done) | (simp; omega) | omega)) | (with_reducible apply bl_set; focus (first | (simp; done) | (simp; omega) | omega))))) hb
      have HB6s := HB6.size
      clear hb
      go_wp2_with fail
      refine (RR.out _).mono ?_
      rintro e W7 ⟨rfl, hb⟩
      have HB7 : Below w.heap.size w W7 := Below.thn (by (repeat (first | (with_reducible assumption) | (with_reducible exact Below.refl _ _) | with_reducible apply bl_drewN | with_reducible apply Below.drew | (with_reducible apply bl_alloc; focus (first | (simp; done) | (simp; omega) | omega)) | (with_reducible apply bl_set; focus (first | (simp; done) | (simp; omega) | omega))))) hb
      have X7 : Blk W7 W6.heap.size (PC 0 0 0 0 false ⟨#[]⟩) 70 := Blk.below ((Blk.new _ _ _).conv rfl) hb
      have X7c := X7.cell; have X7l := X7.lt; have HB7s := HB7.size
      clear hb
      go_wp2_with fail
      refine (PS.out _).mono ?_
      rintro e W8 ⟨rfl, hb⟩
      have HB8 : Below w.heap.size w W8 := Below.thn (by (repeat (first | (with_reducible assumption) | (with_reducible exact Below.refl _ _) | with_reducible apply bl_drewN | with_reducible apply Below.drew | (with_reducible apply bl_alloc; focus (first | (simp; done) | (simp; omega) | omega)) | (with_reducible apply bl_set; focus (first | (simp; done) | (simp; omega) | omega))))) hb
      clear hb
      go_wp2_with fail
      go_ret
      exact ⟨rfl, HB8⟩
set_option maxHeartbeats 4000000 in
set_option maxRecDepth 20000 in
theorem wparts_long (st rp nb : Nat) (ix : Int) (la : Bool) (tx s : ByteArray) (h : (600 : Int) < max (tx.size : Int) (s.size : Int)) (w : World) :
    Calls Try.prog 10 #[PV st rp nb ix la tx, .string s] w fun e w' => e = .returned (.bool true) ∧ Below w.heap.size w w' := by
  go_enter Try.func10, Try.ntmps10
  go_wp2_with fail
  refine (awake09_any _).mono ?_
  rintro e W1 ⟨rfl, hb⟩
  have HB1 : Below w.heap.size w W1 := Below.thn (by (repeat (first | (with_reducible assumption) | (with_reducible exact Below.refl _ _) | with_reducible apply bl_drewN | with_reducible apply Below.drew | (with_reducible apply bl_alloc; focus (first | (simp; done) | (simp; omega) | omega)) | (with_reducible apply bl_set; focus (first | (simp; done) | (simp; omega) | omega))))) hb
  have B1 : Blk W1 w.heap.size (PC st rp nb ix la tx) 70 := Blk.below (Blk.new _ _ _) hb
  have B1c := B1.cell
  clear hb
  go_wp2_with fail
  go_ret
  exact ⟨rfl, HB1⟩
end Go.Proofs.Ytkblkdojmfgneaa
