/- Package wire: check, sized, Room, Bytes of a part. -/
import Derived.Test.YtkblkdojmfgneaaWireL
import Derived.Test.YtkblkdojmfgneaaSealA
namespace Go.Proofs.Ytkblkdojmfgneaa
open Go.RowKit

abbrev PC (st rp nb : Nat) (ix : Int) (la : Bool) (tx : ByteArray) : Array Value := #[.int .u16 (st : Int), .int .u16 (rp : Int), .int .u64 (nb : Int), .int .i64 ix, .bool la, .string tx]
abbrev PV (st rp nb : Nat) (ix : Int) (la : Bool) (tx : ByteArray) : Value := .agg (PC st rp nb ix la tx)
/-- May a part be? The error. -/
def chk (ix : Int) (tx : ByteArray) : Nat := if ix < 0 ∨ 32 ≤ ix then 7 else if 466 < tx.size then 5 else 0
theorem chk_low {ix : Int} {tx : ByteArray} (h : ix < 0 ∨ 32 ≤ ix) : chk ix tx = 7 := by unfold chk; rw [if_pos h]
theorem chk_long {ix : Int} {tx : ByteArray} (h1 : 0 ≤ ix) (h2 : ix < 32) (h : 466 < tx.size) : chk ix tx = 5 := by unfold chk; rw [if_neg (by omega), if_pos h]
theorem chk_ok {ix : Int} {tx : ByteArray} (h1 : 0 ≤ ix) (h2 : ix < 32) (h : tx.size ≤ 466) : chk ix tx = 0 := by unfold chk; rw [if_neg (by omega), if_neg (by omega)]
theorem chk_cases (ix : Int) (tx : ByteArray) : ((ix < 0 ∨ 32 ≤ ix) ∧ chk ix tx = 7) ∨ (0 ≤ ix ∧ ix < 32 ∧ 466 < tx.size ∧ chk ix tx = 5) ∨ (0 ≤ ix ∧ ix < 32 ∧ tx.size ≤ 466 ∧ chk ix tx = 0) := by
  by_cases h : ix < 0 ∨ 32 ≤ ix
  · exact .inl ⟨h, chk_low h⟩
  · by_cases h2 : 466 < tx.size
    · exact .inr (.inl ⟨by omega, by omega, h2, chk_long (by omega) (by omega) h2⟩)
    · exact .inr (.inr ⟨by omega, by omega, by omega, chk_ok (by omega) (by omega) (by omega)⟩)
set_option maxHeartbeats 2000000 in
theorem check_any (st rp nb : Nat) (ix : Int) (la : Bool) (tx : ByteArray) (w : World) : Calls Try.prog 75 #[PV st rp nb ix la tx] w fun e w' => e = .returned (.int .i64 (chk ix tx : Nat)) ∧ Below w.heap.size w w' := by
  rcases chk_cases ix tx with ⟨h, e⟩ | ⟨h1, h2, h3, e⟩ | ⟨h1, h2, h3, e⟩
  · rw [e]
    clear e
    by_cases h1 : ix < 0
    · clear h
      go_enter Try.func75, Try.ntmps75
      go_wp2_with fail
      go_ret
      exact ⟨rfl, by (repeat (first | (with_reducible assumption) | (with_reducible exact Below.refl _ _) | with_reducible apply bl_drewN | with_reducible apply Below.drew | (with_reducible apply bl_alloc; focus (first | (simp; done) | (simp; omega) | omega)) | (with_reducible apply bl_set; focus (first | (simp; done) | (simp; omega) | omega))))⟩
    · have h2 : 32 ≤ ix := by omega
      clear h
      go_enter Try.func75, Try.ntmps75
      go_wp2_with fail
      go_ret
      exact ⟨rfl, by (repeat (first | (with_reducible assumption) | (with_reducible exact Below.refl _ _) | with_reducible apply bl_drewN | with_reducible apply Below.drew | (with_reducible apply bl_alloc; focus (first | (simp; done) | (simp; omega) | omega)) | (with_reducible apply bl_set; focus (first | (simp; done) | (simp; omega) | omega))))⟩
  · rw [e]
    clear e
    have g1 : ¬ ix < 0 := by omega
    have g2 : ¬ 32 ≤ ix := by omega
    have g3 : (466 : Int) < (tx.size : Int) := by omega
    clear h1 h2 h3
    go_enter Try.func75, Try.ntmps75
    go_wp2_with fail
    go_ret
    exact ⟨rfl, by (repeat (first | (with_reducible assumption) | (with_reducible exact Below.refl _ _) | with_reducible apply bl_drewN | with_reducible apply Below.drew | (with_reducible apply bl_alloc; focus (first | (simp; done) | (simp; omega) | omega)) | (with_reducible apply bl_set; focus (first | (simp; done) | (simp; omega) | omega))))⟩
  · rw [e]
    clear e
    have g1 : ¬ ix < 0 := by omega
    have g2 : ¬ 32 ≤ ix := by omega
    have g3 : ¬ (466 : Int) < (tx.size : Int) := by omega
    clear h1 h2 h3
    go_enter Try.func75, Try.ntmps75
    go_wp2_with fail
    go_ret
    exact ⟨rfl, by (repeat (first | (with_reducible assumption) | (with_reducible exact Below.refl _ _) | with_reducible apply bl_drewN | with_reducible apply Below.drew | (with_reducible apply bl_alloc; focus (first | (simp; done) | (simp; omega) | omega)) | (with_reducible apply bl_set; focus (first | (simp; done) | (simp; omega) | omega))))⟩
/-- Is a length one? The error. -/
def szd (n : Nat) : Nat := if n < 32 then 3 else if 512 < n then 5 else 0
set_option maxHeartbeats 2000000 in
theorem sized_any (n : Nat) (w : World) : Calls Try.prog 78 #[.int .i64 (n : Int)] w fun e w' => e = .returned (.int .i64 (szd n : Nat)) ∧ Below w.heap.size w w' := by
  unfold szd
  by_cases h1 : n < 32
  · rw [if_pos h1]
    have g1 : (n : Int) < 32 := by omega
    clear h1
    go_enter Try.func78, Try.ntmps78
    go_wp2_with fail
    go_ret
    exact ⟨rfl, by (repeat (first | (with_reducible assumption) | (with_reducible exact Below.refl _ _) | with_reducible apply bl_drewN | with_reducible apply Below.drew | (with_reducible apply bl_alloc; focus (first | (simp; done) | (simp; omega) | omega)) | (with_reducible apply bl_set; focus (first | (simp; done) | (simp; omega) | omega))))⟩
  · rw [if_neg h1]
    have g1 : ¬ (n : Int) < 32 := by omega
    clear h1
    by_cases h2 : 512 < n
    · rw [if_pos h2]
      have g2 : (512 : Int) < (n : Int) := by omega
      clear h2
      go_enter Try.func78, Try.ntmps78
      go_wp2_with fail
      go_ret
      exact ⟨rfl, by (repeat (first | (with_reducible assumption) | (with_reducible exact Below.refl _ _) | with_reducible apply bl_drewN | with_reducible apply Below.drew | (with_reducible apply bl_alloc; focus (first | (simp; done) | (simp; omega) | omega)) | (with_reducible apply bl_set; focus (first | (simp; done) | (simp; omega) | omega))))⟩
    · rw [if_neg h2]
      have g2 : ¬ (512 : Int) < (n : Int) := by omega
      clear h2
      go_enter Try.func78, Try.ntmps78
      go_wp2_with fail
      go_ret
      exact ⟨rfl, by (repeat (first | (with_reducible assumption) | (with_reducible exact Below.refl _ _) | with_reducible apply bl_drewN | with_reducible apply Below.drew | (with_reducible apply bl_alloc; focus (first | (simp; done) | (simp; omega) | omega)) | (with_reducible apply bl_set; focus (first | (simp; done) | (simp; omega) | omega))))⟩
set_option maxHeartbeats 2000000 in
theorem room_any (w : World) : Calls Try.prog 46 #[] w fun e w' => e = .returned (.int .i64 466) ∧ w' = w := by
  go_enter Try.func46, Try.ntmps46
  go_wp2_with fail
  go_ret
  exact ⟨rfl, rfl⟩
theorem or_last (n : Nat) (h : n < 32768) : bits .or .u64 (n : Int) 32768 = ((n + 32768 : Nat) : Int) := by
  have h5 := u64_or_nat n 32768 (by omega) (by decide)
  rw [show ((32768 : Nat) : Int) = 32768 from rfl] at h5
  rw [h5]
  congr 1
  have h6 := Nat.two_pow_add_eq_or_of_lt (i := 15) (b := n) (by omega) 1
  rw [show (2 ^ 15 * 1 : Nat) = 32768 from rfl] at h6
  rw [Nat.or_comm, ← h6, Nat.add_comm]
theorem and_last (n : Nat) (h : n < 65536) : bits .and .u64 (n : Int) 32768 = (if n < 32768 then 0 else 32768 : Int) := by
  have h5 := u64_and_nat n 32768 (by omega) (by decide)
  rw [show ((32768 : Nat) : Int) = 32768 from rfl] at h5
  rw [h5]
  by_cases h1 : n < 32768
  · rw [if_pos h1]
    have e : n &&& 32768 = 0 := by
      apply Nat.eq_of_testBit_eq
      intro i
      rw [Nat.testBit_and, show (32768 : Nat) = 2 ^ 15 from rfl, Nat.testBit_two_pow, Nat.zero_testBit]
      by_cases hi : 15 = i
      · subst hi
        rw [Nat.testBit_lt_two_pow (by omega)]; rfl
      · simp [hi]
    rw [e]; rfl
  · rw [if_neg h1]
    have e : n &&& 32768 = 32768 := by
      apply Nat.eq_of_testBit_eq
      intro i
      rw [Nat.testBit_and, show (32768 : Nat) = 2 ^ 15 from rfl, Nat.testBit_two_pow]
      by_cases hi : 15 = i
      · subst hi
        rw [Nat.testBit_eq_decide_div_mod_eq, show n / 2 ^ 15 % 2 = 1 by omega]; rfl
      · simp [hi]
    rw [e]; rfl
/-- A part's bytes, and the error. -/
def pbB (st rp nb : Nat) (ix : Int) (la : Bool) (tx : ByteArray) : ByteArray := if chk ix tx = 0 then partB st rp nb ix.toNat la tx else ⟨#[]⟩
set_option maxHeartbeats 4000000 in
set_option maxRecDepth 20000 in
theorem pbytes_ok (st rp nb ix : Nat) (la : Bool) (tx : ByteArray) (h1 : st < 65536) (h2 : rp < 65536) (h3 : nb ≤ 18446744073709551615) (h4 : ix < 32) (h5 : tx.size ≤ 466) (w : World) :
    Calls Try.prog 37 #[PV st rp nb (ix : Int) la tx] w fun e w' => e = .returned (.tuple #[.string (partB st rp nb ix la tx), .int .i64 0]) ∧ Below w.heap.size w w' := by
  have hck := fun W => check_any st rp nb (ix : Int) la tx W
  rw [chk_ok (by omega) (by omega) h5] at hck
  have p1 := fun W => wput_any st 2 W (by omega) (by decide) (by decide)
  have p2 := fun W => wput_any rp 2 W (by omega) (by decide) (by decide)
  have p3 := fun W => wput_any nb 8 W h3 (by decide) (by decide)
  have p4 := fun W => wput_any (nOf ix la) 2 W (by unfold nOf; split <;> omega) (by decide) (by decide)
  rw [show (⟨(putB st 2).toArray⟩ : ByteArray) = putS st 2 from rfl] at p1
  rw [show (⟨(putB rp 2).toArray⟩ : ByteArray) = putS rp 2 from rfl] at p2
  rw [show (⟨(putB nb 8).toArray⟩ : ByteArray) = putS nb 8 from rfl] at p3
  rw [show (⟨(putB (nOf ix la) 2).toArray⟩ : ByteArray) = putS (nOf ix la) 2 from rfl] at p4
  have s1 := putS_size st 2; have s2 := putS_size rp 2; have s3 := putS_size nb 8; have s4 := putS_size (nOf ix la) 2
  unfold partB
  obtain ⟨n, hn⟩ : ∃ n, nOf ix la = n := ⟨_, rfl⟩
  rw [hn] at p4 s4 ⊢
  have hnt : la = true → bits .or .u64 (ix : Int) 32768 = (n : Int) := fun h => by rw [or_last ix (by omega), ← hn, h]; rfl
  have hnf : la = false → ix = n := fun h => by rw [← hn, h]; rfl
  obtain ⟨A, hA⟩ : ∃ x, putS st 2 = x := ⟨_, rfl⟩
  obtain ⟨B, hB⟩ : ∃ x, putS rp 2 = x := ⟨_, rfl⟩
  obtain ⟨C, hC⟩ : ∃ x, putS nb 8 = x := ⟨_, rfl⟩
  obtain ⟨D, hD⟩ : ∃ x, putS n 2 = x := ⟨_, rfl⟩
  rw [hA] at p1 s1 ⊢; rw [hB] at p2 s2 ⊢; rw [hC] at p3 s3 ⊢; rw [hD] at p4 s4 ⊢
  have sAB : (A ++ B).size = 4 := by rw [sz_app]; omega
  have sABC : (A ++ B ++ C).size = 12 := by rw [sz_app]; omega
  have sABCD : (A ++ B ++ C ++ D).size = 14 := by rw [sz_app]; omega
  have a1 : ∀ W, (Op.stringOp .add A B).run Try.prog W = .ok (.string (A ++ B)) W := fun W => run_string_add_sum W _ _ (by omega)
  have a2 : ∀ W, (Op.stringOp .add (A ++ B) C).run Try.prog W = .ok (.string (A ++ B ++ C)) W := fun W => run_string_add_sum W _ _ (by omega)
  have a3 : ∀ W, (Op.stringOp .add (A ++ B ++ C) D).run Try.prog W = .ok (.string (A ++ B ++ C ++ D)) W := fun W => run_string_add_sum W _ _ (by omega)
  have a4 : ∀ W, (Op.stringOp .add (A ++ B ++ C ++ D) tx).run Try.prog W = .ok (.string (A ++ B ++ C ++ D ++ tx)) W := fun W => run_string_add_sum W _ _ (by omega)
  have CK := Lib.hid hck; have P1 := Lib.hid p1; have P2 := Lib.hid p2; have P3 := Lib.hid p3; have P4 := Lib.hid p4
  clear hck p1 p2 p3 p4 hA hB hC hD hn
  cases la with
  | true =>
    have hnt := hnt rfl
    clear hnf
    go_enter Try.func37, Try.ntmps37
    go_wp2_with fail
    refine (CK.out _).mono ?_
    rintro e W1 ⟨rfl, hb⟩
    have HB1 : Below w.heap.size w W1 := Below.thn (by (repeat (first | (with_reducible assumption) | (with_reducible exact Below.refl _ _) | with_reducible apply bl_drewN | with_reducible apply Below.drew | (with_reducible apply bl_alloc; focus (first | (simp; done) | (simp; omega) | omega)) | (with_reducible apply bl_set; focus (first | (simp; done) | (simp; omega) | omega))))) hb
    have B1 : Blk W1 w.heap.size (PC st rp nb (ix : Int) true tx) 70 := Blk.below (Blk.new _ _ _) hb
    have B1c := B1.cell
    clear hb
    go_wp2_with fail
    refine wp_region_typed 19 (fun k => match k with | 8 => [3,7] | 12 => [8,11] | 15 => [12,14] | 18 => [15] | _ => []) (fun k => match k with  | _ => false) (fun k => match k with | 3 => some ⟨(Unit), (()), (fun _ => .string A), (fun _ _ => True), (fun _ _ _ h _ => h)⟩ | 7 => some ⟨(Unit), (()), (fun _ => .string B), (fun _ _ => True), (fun _ _ _ h _ => h)⟩ | 8 => some ⟨(Unit), (()), (fun _ => .string (A ++ B)), (fun _ _ => True), (fun _ _ _ h _ => h)⟩ | 11 => some ⟨(Unit), (()), (fun _ => .string C), (fun _ _ => True), (fun _ _ _ h _ => h)⟩ | 12 => some ⟨(Unit), (()), (fun _ => .string (A ++ B ++ C)), (fun _ _ => True), (fun _ _ _ h _ => h)⟩ | 14 => some ⟨(Unit), (()), (fun _ => .string D), (fun _ _ => True), (fun _ _ _ h _ => h)⟩ | 15 => some ⟨(Unit), (()), (fun _ => .string (A ++ B ++ C ++ D)), (fun _ _ => True), (fun _ _ _ h _ => h)⟩ | 18 => some ⟨(Unit), (()), (fun _ => .string (A ++ B ++ C ++ D ++ tx)), (fun _ _ => True), (fun _ _ _ h _ => h)⟩ | _ => none) (by kernel_rfl) (by kernel_rfl) (by intro d0 v0 c0 a0 w0 h0; first | (cases d0 <;> exact h0) | exact hP _ _ _ _ _ h0) ?_
    rw [show List.range 19 = [0, 1, 2, 3, 4, 5, 6, 7, 8, 9, 10, 11, 12, 13, 14, 15, 16, 17, 18] from rfl]
    first
      | (refine ty_skip rfl rfl ?_; (try simp only [Act.put, List.setIfInBounds_toArray, List.set_cons_zero, List.set_cons_succ]))
      | (refine ty_pure rfl rfl rfl rfl ?_; apply Exists.intro; refine ⟨fun wq hq hk => ?_, ?_⟩
         · have f0 := hq.blk B1; simp only [pureAt]; go_simp; (try simp only [↓IntWalk.iteOmega]); (try go_bits); (try simp only [pureUpon]); (first | done | exact ⟨rfl, rfl⟩ | exact ⟨trivial, rfl⟩ | rfl)
         (try simp only [Act.put, List.setIfInBounds_toArray, List.set_cons_zero, List.set_cons_succ]))
    first
      | (refine ty_skip rfl rfl ?_; (try simp only [Act.put, List.setIfInBounds_toArray, List.set_cons_zero, List.set_cons_succ]))
      | (refine ty_pure rfl rfl rfl rfl ?_; apply Exists.intro; refine ⟨fun wq hq hk => ?_, ?_⟩
         · have f0 := hq.blk B1; simp only [pureAt]; go_simp; (try simp only [↓IntWalk.iteOmega]); (try go_bits); (try simp only [pureUpon]); (first | done | exact ⟨rfl, rfl⟩ | exact ⟨trivial, rfl⟩ | rfl)
         (try simp only [Act.put, List.setIfInBounds_toArray, List.set_cons_zero, List.set_cons_succ]))
    first
      | (refine ty_skip rfl rfl ?_; (try simp only [Act.put, List.setIfInBounds_toArray, List.set_cons_zero, List.set_cons_succ]))
      | (refine ty_pure rfl rfl rfl rfl ?_; apply Exists.intro; refine ⟨fun wq hq hk => ?_, ?_⟩
         · have f0 := hq.blk B1; simp only [pureAt]; go_simp; (try simp only [↓IntWalk.iteOmega]); (try go_bits); (try simp only [pureUpon]); (first | done | exact ⟨rfl, rfl⟩ | exact ⟨trivial, rfl⟩ | rfl)
         (try simp only [Act.put, List.setIfInBounds_toArray, List.set_cons_zero, List.set_cons_succ]))
    refine ty_rel rfl rfl _ rfl rfl (fun wq hq hk => ?_) ?_
    · have f0 := hq.blk B1; simp only [relAt]; go_simp; (try simp only [relUpon]); (go_at_call 51; refine (P1.out _).mono ?_; rintro e w9 ⟨rfl, hb9⟩; exact ⟨_, rfl, .mk hb9 () rfl trivial⟩)
    rintro ⟨⟩
    (try simp only [Act.put, List.setIfInBounds_toArray, List.set_cons_zero, List.set_cons_succ])
    first
      | (refine ty_skip rfl rfl ?_; (try simp only [Act.put, List.setIfInBounds_toArray, List.set_cons_zero, List.set_cons_succ]))
      | (refine ty_pure rfl rfl rfl rfl ?_; apply Exists.intro; refine ⟨fun wq hq hk => ?_, ?_⟩
         · have f0 := hq.blk B1; simp only [pureAt]; go_simp; (try simp only [↓IntWalk.iteOmega]); (try go_bits); (try simp only [pureUpon]); (first | done | exact ⟨rfl, rfl⟩ | exact ⟨trivial, rfl⟩ | rfl)
         (try simp only [Act.put, List.setIfInBounds_toArray, List.set_cons_zero, List.set_cons_succ]))
    first
      | (refine ty_skip rfl rfl ?_; (try simp only [Act.put, List.setIfInBounds_toArray, List.set_cons_zero, List.set_cons_succ]))
      | (refine ty_pure rfl rfl rfl rfl ?_; apply Exists.intro; refine ⟨fun wq hq hk => ?_, ?_⟩
         · have f0 := hq.blk B1; simp only [pureAt]; go_simp; (try simp only [↓IntWalk.iteOmega]); (try go_bits); (try simp only [pureUpon]); (first | done | exact ⟨rfl, rfl⟩ | exact ⟨trivial, rfl⟩ | rfl)
         (try simp only [Act.put, List.setIfInBounds_toArray, List.set_cons_zero, List.set_cons_succ]))
    first
      | (refine ty_skip rfl rfl ?_; (try simp only [Act.put, List.setIfInBounds_toArray, List.set_cons_zero, List.set_cons_succ]))
      | (refine ty_pure rfl rfl rfl rfl ?_; apply Exists.intro; refine ⟨fun wq hq hk => ?_, ?_⟩
         · have f0 := hq.blk B1; simp only [pureAt]; go_simp; (try simp only [↓IntWalk.iteOmega]); (try go_bits); (try simp only [pureUpon]); (first | done | exact ⟨rfl, rfl⟩ | exact ⟨trivial, rfl⟩ | rfl)
         (try simp only [Act.put, List.setIfInBounds_toArray, List.set_cons_zero, List.set_cons_succ]))
    refine ty_rel rfl rfl _ rfl rfl (fun wq hq hk => ?_) ?_
    · have f0 := hq.blk B1; simp only [relAt]; go_simp; (try simp only [relUpon]); (go_at_call 51; refine (P2.out _).mono ?_; rintro e w9 ⟨rfl, hb9⟩; exact ⟨_, rfl, .mk hb9 () rfl trivial⟩)
    rintro ⟨⟩
    (try simp only [Act.put, List.setIfInBounds_toArray, List.set_cons_zero, List.set_cons_succ])
    refine ty_rel rfl rfl _ rfl rfl (fun wq hq hk => ?_) ?_
    · have f0 := hq.blk B1; have ra := a1 wq; simp only [relAt]; go_simp; (try simp only [relUpon]); exact .mk (Below.refl _ _) () rfl trivial
    rintro ⟨⟩
    (try simp only [Act.put, List.setIfInBounds_toArray, List.set_cons_zero, List.set_cons_succ])
    first
      | (refine ty_skip rfl rfl ?_; (try simp only [Act.put, List.setIfInBounds_toArray, List.set_cons_zero, List.set_cons_succ]))
      | (refine ty_pure rfl rfl rfl rfl ?_; apply Exists.intro; refine ⟨fun wq hq hk => ?_, ?_⟩
         · have f0 := hq.blk B1; simp only [pureAt]; go_simp; (try simp only [↓IntWalk.iteOmega]); (try go_bits); (try simp only [pureUpon]); (first | done | exact ⟨rfl, rfl⟩ | exact ⟨trivial, rfl⟩ | rfl)
         (try simp only [Act.put, List.setIfInBounds_toArray, List.set_cons_zero, List.set_cons_succ]))
    first
      | (refine ty_skip rfl rfl ?_; (try simp only [Act.put, List.setIfInBounds_toArray, List.set_cons_zero, List.set_cons_succ]))
      | (refine ty_pure rfl rfl rfl rfl ?_; apply Exists.intro; refine ⟨fun wq hq hk => ?_, ?_⟩
         · have f0 := hq.blk B1; simp only [pureAt]; go_simp; (try simp only [↓IntWalk.iteOmega]); (try go_bits); (try simp only [pureUpon]); (first | done | exact ⟨rfl, rfl⟩ | exact ⟨trivial, rfl⟩ | rfl)
         (try simp only [Act.put, List.setIfInBounds_toArray, List.set_cons_zero, List.set_cons_succ]))
    refine ty_rel rfl rfl _ rfl rfl (fun wq hq hk => ?_) ?_
    · have f0 := hq.blk B1; simp only [relAt]; go_simp; (try simp only [relUpon]); (go_at_call 51; refine (P3.out _).mono ?_; rintro e w9 ⟨rfl, hb9⟩; exact ⟨_, rfl, .mk hb9 () rfl trivial⟩)
    rintro ⟨⟩
    (try simp only [Act.put, List.setIfInBounds_toArray, List.set_cons_zero, List.set_cons_succ])
    refine ty_rel rfl rfl _ rfl rfl (fun wq hq hk => ?_) ?_
    · have f0 := hq.blk B1; have ra := a2 wq; simp only [relAt]; go_simp; (try simp only [relUpon]); exact .mk (Below.refl _ _) () rfl trivial
    rintro ⟨⟩
    (try simp only [Act.put, List.setIfInBounds_toArray, List.set_cons_zero, List.set_cons_succ])
    first
      | (refine ty_skip rfl rfl ?_; (try simp only [Act.put, List.setIfInBounds_toArray, List.set_cons_zero, List.set_cons_succ]))
      | (refine ty_pure rfl rfl rfl rfl ?_; apply Exists.intro; refine ⟨fun wq hq hk => ?_, ?_⟩
         · have f0 := hq.blk B1; simp only [pureAt]; go_simp; (try simp only [↓IntWalk.iteOmega]); (try go_bits); (try simp only [pureUpon]); (first | done | exact ⟨rfl, rfl⟩ | exact ⟨trivial, rfl⟩ | rfl)
         (try simp only [Act.put, List.setIfInBounds_toArray, List.set_cons_zero, List.set_cons_succ]))
    refine ty_rel rfl rfl _ rfl rfl (fun wq hq hk => ?_) ?_
    · have f0 := hq.blk B1; simp only [relAt]; go_simp; (try simp only [relUpon]); (go_at_call 51; refine (P4.out _).mono ?_; rintro e w9 ⟨rfl, hb9⟩; exact ⟨_, rfl, .mk hb9 () rfl trivial⟩)
    rintro ⟨⟩
    (try simp only [Act.put, List.setIfInBounds_toArray, List.set_cons_zero, List.set_cons_succ])
    refine ty_rel rfl rfl _ rfl rfl (fun wq hq hk => ?_) ?_
    · have f0 := hq.blk B1; have ra := a3 wq; simp only [relAt]; go_simp; (try simp only [relUpon]); exact .mk (Below.refl _ _) () rfl trivial
    rintro ⟨⟩
    (try simp only [Act.put, List.setIfInBounds_toArray, List.set_cons_zero, List.set_cons_succ])
    first
      | (refine ty_skip rfl rfl ?_; (try simp only [Act.put, List.setIfInBounds_toArray, List.set_cons_zero, List.set_cons_succ]))
      | (refine ty_pure rfl rfl rfl rfl ?_; apply Exists.intro; refine ⟨fun wq hq hk => ?_, ?_⟩
         · have f0 := hq.blk B1; simp only [pureAt]; go_simp; (try simp only [↓IntWalk.iteOmega]); (try go_bits); (try simp only [pureUpon]); (first | done | exact ⟨rfl, rfl⟩ | exact ⟨trivial, rfl⟩ | rfl)
         (try simp only [Act.put, List.setIfInBounds_toArray, List.set_cons_zero, List.set_cons_succ]))
    first
      | (refine ty_skip rfl rfl ?_; (try simp only [Act.put, List.setIfInBounds_toArray, List.set_cons_zero, List.set_cons_succ]))
      | (refine ty_pure rfl rfl rfl rfl ?_; apply Exists.intro; refine ⟨fun wq hq hk => ?_, ?_⟩
         · have f0 := hq.blk B1; simp only [pureAt]; go_simp; (try simp only [↓IntWalk.iteOmega]); (try go_bits); (try simp only [pureUpon]); (first | done | exact ⟨rfl, rfl⟩ | exact ⟨trivial, rfl⟩ | rfl)
         (try simp only [Act.put, List.setIfInBounds_toArray, List.set_cons_zero, List.set_cons_succ]))
    refine ty_rel rfl rfl _ rfl rfl (fun wq hq hk => ?_) ?_
    · have f0 := hq.blk B1; have ra := a4 wq; simp only [relAt]; go_simp; (try simp only [relUpon]); exact .mk (Below.refl _ _) () rfl trivial
    rintro ⟨⟩
    (try simp only [Act.put, List.setIfInBounds_toArray, List.set_cons_zero, List.set_cons_succ])
    refine ty_nil ?_
    simp only [List.drop_succ_cons, List.drop_zero]
    intro W8 hw8 hΓ
    have HB8 := Below.thn HB1 hw8.out HB1.size
    clear hΓ hw8
    go_wp2_with fail
    go_ret2
    exact ⟨rfl, HB8⟩
  | false =>
    have hnf := hnf rfl
    subst hnf
    clear hnt
    go_enter Try.func37, Try.ntmps37
    go_wp2_with fail
    refine (CK.out _).mono ?_
    rintro e W1 ⟨rfl, hb⟩
    have HB1 : Below w.heap.size w W1 := Below.thn (by (repeat (first | (with_reducible assumption) | (with_reducible exact Below.refl _ _) | with_reducible apply bl_drewN | with_reducible apply Below.drew | (with_reducible apply bl_alloc; focus (first | (simp; done) | (simp; omega) | omega)) | (with_reducible apply bl_set; focus (first | (simp; done) | (simp; omega) | omega))))) hb
    have B1 : Blk W1 w.heap.size (PC st rp nb (ix : Int) false tx) 70 := Blk.below (Blk.new _ _ _) hb
    have B1c := B1.cell
    clear hb
    go_wp2_with fail
    refine wp_region_typed 19 (fun k => match k with | 8 => [3,7] | 12 => [8,11] | 15 => [12,14] | 18 => [15] | _ => []) (fun k => match k with  | _ => false) (fun k => match k with | 3 => some ⟨(Unit), (()), (fun _ => .string A), (fun _ _ => True), (fun _ _ _ h _ => h)⟩ | 7 => some ⟨(Unit), (()), (fun _ => .string B), (fun _ _ => True), (fun _ _ _ h _ => h)⟩ | 8 => some ⟨(Unit), (()), (fun _ => .string (A ++ B)), (fun _ _ => True), (fun _ _ _ h _ => h)⟩ | 11 => some ⟨(Unit), (()), (fun _ => .string C), (fun _ _ => True), (fun _ _ _ h _ => h)⟩ | 12 => some ⟨(Unit), (()), (fun _ => .string (A ++ B ++ C)), (fun _ _ => True), (fun _ _ _ h _ => h)⟩ | 14 => some ⟨(Unit), (()), (fun _ => .string D), (fun _ _ => True), (fun _ _ _ h _ => h)⟩ | 15 => some ⟨(Unit), (()), (fun _ => .string (A ++ B ++ C ++ D)), (fun _ _ => True), (fun _ _ _ h _ => h)⟩ | 18 => some ⟨(Unit), (()), (fun _ => .string (A ++ B ++ C ++ D ++ tx)), (fun _ _ => True), (fun _ _ _ h _ => h)⟩ | _ => none) (by kernel_rfl) (by kernel_rfl) (by intro d0 v0 c0 a0 w0 h0; first | (cases d0 <;> exact h0) | exact hP _ _ _ _ _ h0) ?_
    rw [show List.range 19 = [0, 1, 2, 3, 4, 5, 6, 7, 8, 9, 10, 11, 12, 13, 14, 15, 16, 17, 18] from rfl]
    first
      | (refine ty_skip rfl rfl ?_; (try simp only [Act.put, List.setIfInBounds_toArray, List.set_cons_zero, List.set_cons_succ]))
      | (refine ty_pure rfl rfl rfl rfl ?_; apply Exists.intro; refine ⟨fun wq hq hk => ?_, ?_⟩
         · have f0 := hq.blk B1; simp only [pureAt]; go_simp; (try simp only [↓IntWalk.iteOmega]); (try go_bits); (try simp only [pureUpon]); (first | done | exact ⟨rfl, rfl⟩ | exact ⟨trivial, rfl⟩ | rfl)
         (try simp only [Act.put, List.setIfInBounds_toArray, List.set_cons_zero, List.set_cons_succ]))
    first
      | (refine ty_skip rfl rfl ?_; (try simp only [Act.put, List.setIfInBounds_toArray, List.set_cons_zero, List.set_cons_succ]))
      | (refine ty_pure rfl rfl rfl rfl ?_; apply Exists.intro; refine ⟨fun wq hq hk => ?_, ?_⟩
         · have f0 := hq.blk B1; simp only [pureAt]; go_simp; (try simp only [↓IntWalk.iteOmega]); (try go_bits); (try simp only [pureUpon]); (first | done | exact ⟨rfl, rfl⟩ | exact ⟨trivial, rfl⟩ | rfl)
         (try simp only [Act.put, List.setIfInBounds_toArray, List.set_cons_zero, List.set_cons_succ]))
    first
      | (refine ty_skip rfl rfl ?_; (try simp only [Act.put, List.setIfInBounds_toArray, List.set_cons_zero, List.set_cons_succ]))
      | (refine ty_pure rfl rfl rfl rfl ?_; apply Exists.intro; refine ⟨fun wq hq hk => ?_, ?_⟩
         · have f0 := hq.blk B1; simp only [pureAt]; go_simp; (try simp only [↓IntWalk.iteOmega]); (try go_bits); (try simp only [pureUpon]); (first | done | exact ⟨rfl, rfl⟩ | exact ⟨trivial, rfl⟩ | rfl)
         (try simp only [Act.put, List.setIfInBounds_toArray, List.set_cons_zero, List.set_cons_succ]))
    refine ty_rel rfl rfl _ rfl rfl (fun wq hq hk => ?_) ?_
    · have f0 := hq.blk B1; simp only [relAt]; go_simp; (try simp only [relUpon]); (go_at_call 51; refine (P1.out _).mono ?_; rintro e w9 ⟨rfl, hb9⟩; exact ⟨_, rfl, .mk hb9 () rfl trivial⟩)
    rintro ⟨⟩
    (try simp only [Act.put, List.setIfInBounds_toArray, List.set_cons_zero, List.set_cons_succ])
    first
      | (refine ty_skip rfl rfl ?_; (try simp only [Act.put, List.setIfInBounds_toArray, List.set_cons_zero, List.set_cons_succ]))
      | (refine ty_pure rfl rfl rfl rfl ?_; apply Exists.intro; refine ⟨fun wq hq hk => ?_, ?_⟩
         · have f0 := hq.blk B1; simp only [pureAt]; go_simp; (try simp only [↓IntWalk.iteOmega]); (try go_bits); (try simp only [pureUpon]); (first | done | exact ⟨rfl, rfl⟩ | exact ⟨trivial, rfl⟩ | rfl)
         (try simp only [Act.put, List.setIfInBounds_toArray, List.set_cons_zero, List.set_cons_succ]))
    first
      | (refine ty_skip rfl rfl ?_; (try simp only [Act.put, List.setIfInBounds_toArray, List.set_cons_zero, List.set_cons_succ]))
      | (refine ty_pure rfl rfl rfl rfl ?_; apply Exists.intro; refine ⟨fun wq hq hk => ?_, ?_⟩
         · have f0 := hq.blk B1; simp only [pureAt]; go_simp; (try simp only [↓IntWalk.iteOmega]); (try go_bits); (try simp only [pureUpon]); (first | done | exact ⟨rfl, rfl⟩ | exact ⟨trivial, rfl⟩ | rfl)
         (try simp only [Act.put, List.setIfInBounds_toArray, List.set_cons_zero, List.set_cons_succ]))
    first
      | (refine ty_skip rfl rfl ?_; (try simp only [Act.put, List.setIfInBounds_toArray, List.set_cons_zero, List.set_cons_succ]))
      | (refine ty_pure rfl rfl rfl rfl ?_; apply Exists.intro; refine ⟨fun wq hq hk => ?_, ?_⟩
         · have f0 := hq.blk B1; simp only [pureAt]; go_simp; (try simp only [↓IntWalk.iteOmega]); (try go_bits); (try simp only [pureUpon]); (first | done | exact ⟨rfl, rfl⟩ | exact ⟨trivial, rfl⟩ | rfl)
         (try simp only [Act.put, List.setIfInBounds_toArray, List.set_cons_zero, List.set_cons_succ]))
    refine ty_rel rfl rfl _ rfl rfl (fun wq hq hk => ?_) ?_
    · have f0 := hq.blk B1; simp only [relAt]; go_simp; (try simp only [relUpon]); (go_at_call 51; refine (P2.out _).mono ?_; rintro e w9 ⟨rfl, hb9⟩; exact ⟨_, rfl, .mk hb9 () rfl trivial⟩)
    rintro ⟨⟩
    (try simp only [Act.put, List.setIfInBounds_toArray, List.set_cons_zero, List.set_cons_succ])
    refine ty_rel rfl rfl _ rfl rfl (fun wq hq hk => ?_) ?_
    · have f0 := hq.blk B1; have ra := a1 wq; simp only [relAt]; go_simp; (try simp only [relUpon]); exact .mk (Below.refl _ _) () rfl trivial
    rintro ⟨⟩
    (try simp only [Act.put, List.setIfInBounds_toArray, List.set_cons_zero, List.set_cons_succ])
    first
      | (refine ty_skip rfl rfl ?_; (try simp only [Act.put, List.setIfInBounds_toArray, List.set_cons_zero, List.set_cons_succ]))
      | (refine ty_pure rfl rfl rfl rfl ?_; apply Exists.intro; refine ⟨fun wq hq hk => ?_, ?_⟩
         · have f0 := hq.blk B1; simp only [pureAt]; go_simp; (try simp only [↓IntWalk.iteOmega]); (try go_bits); (try simp only [pureUpon]); (first | done | exact ⟨rfl, rfl⟩ | exact ⟨trivial, rfl⟩ | rfl)
         (try simp only [Act.put, List.setIfInBounds_toArray, List.set_cons_zero, List.set_cons_succ]))
    first
      | (refine ty_skip rfl rfl ?_; (try simp only [Act.put, List.setIfInBounds_toArray, List.set_cons_zero, List.set_cons_succ]))
      | (refine ty_pure rfl rfl rfl rfl ?_; apply Exists.intro; refine ⟨fun wq hq hk => ?_, ?_⟩
         · have f0 := hq.blk B1; simp only [pureAt]; go_simp; (try simp only [↓IntWalk.iteOmega]); (try go_bits); (try simp only [pureUpon]); (first | done | exact ⟨rfl, rfl⟩ | exact ⟨trivial, rfl⟩ | rfl)
         (try simp only [Act.put, List.setIfInBounds_toArray, List.set_cons_zero, List.set_cons_succ]))
    refine ty_rel rfl rfl _ rfl rfl (fun wq hq hk => ?_) ?_
    · have f0 := hq.blk B1; simp only [relAt]; go_simp; (try simp only [relUpon]); (go_at_call 51; refine (P3.out _).mono ?_; rintro e w9 ⟨rfl, hb9⟩; exact ⟨_, rfl, .mk hb9 () rfl trivial⟩)
    rintro ⟨⟩
    (try simp only [Act.put, List.setIfInBounds_toArray, List.set_cons_zero, List.set_cons_succ])
    refine ty_rel rfl rfl _ rfl rfl (fun wq hq hk => ?_) ?_
    · have f0 := hq.blk B1; have ra := a2 wq; simp only [relAt]; go_simp; (try simp only [relUpon]); exact .mk (Below.refl _ _) () rfl trivial
    rintro ⟨⟩
    (try simp only [Act.put, List.setIfInBounds_toArray, List.set_cons_zero, List.set_cons_succ])
    first
      | (refine ty_skip rfl rfl ?_; (try simp only [Act.put, List.setIfInBounds_toArray, List.set_cons_zero, List.set_cons_succ]))
      | (refine ty_pure rfl rfl rfl rfl ?_; apply Exists.intro; refine ⟨fun wq hq hk => ?_, ?_⟩
         · have f0 := hq.blk B1; simp only [pureAt]; go_simp; (try simp only [↓IntWalk.iteOmega]); (try go_bits); (try simp only [pureUpon]); (first | done | exact ⟨rfl, rfl⟩ | exact ⟨trivial, rfl⟩ | rfl)
         (try simp only [Act.put, List.setIfInBounds_toArray, List.set_cons_zero, List.set_cons_succ]))
    refine ty_rel rfl rfl _ rfl rfl (fun wq hq hk => ?_) ?_
    · have f0 := hq.blk B1; simp only [relAt]; go_simp; (try simp only [relUpon]); (go_at_call 51; refine (P4.out _).mono ?_; rintro e w9 ⟨rfl, hb9⟩; exact ⟨_, rfl, .mk hb9 () rfl trivial⟩)
    rintro ⟨⟩
    (try simp only [Act.put, List.setIfInBounds_toArray, List.set_cons_zero, List.set_cons_succ])
    refine ty_rel rfl rfl _ rfl rfl (fun wq hq hk => ?_) ?_
    · have f0 := hq.blk B1; have ra := a3 wq; simp only [relAt]; go_simp; (try simp only [relUpon]); exact .mk (Below.refl _ _) () rfl trivial
    rintro ⟨⟩
    (try simp only [Act.put, List.setIfInBounds_toArray, List.set_cons_zero, List.set_cons_succ])
    first
      | (refine ty_skip rfl rfl ?_; (try simp only [Act.put, List.setIfInBounds_toArray, List.set_cons_zero, List.set_cons_succ]))
      | (refine ty_pure rfl rfl rfl rfl ?_; apply Exists.intro; refine ⟨fun wq hq hk => ?_, ?_⟩
         · have f0 := hq.blk B1; simp only [pureAt]; go_simp; (try simp only [↓IntWalk.iteOmega]); (try go_bits); (try simp only [pureUpon]); (first | done | exact ⟨rfl, rfl⟩ | exact ⟨trivial, rfl⟩ | rfl)
         (try simp only [Act.put, List.setIfInBounds_toArray, List.set_cons_zero, List.set_cons_succ]))
    first
      | (refine ty_skip rfl rfl ?_; (try simp only [Act.put, List.setIfInBounds_toArray, List.set_cons_zero, List.set_cons_succ]))
      | (refine ty_pure rfl rfl rfl rfl ?_; apply Exists.intro; refine ⟨fun wq hq hk => ?_, ?_⟩
         · have f0 := hq.blk B1; simp only [pureAt]; go_simp; (try simp only [↓IntWalk.iteOmega]); (try go_bits); (try simp only [pureUpon]); (first | done | exact ⟨rfl, rfl⟩ | exact ⟨trivial, rfl⟩ | rfl)
         (try simp only [Act.put, List.setIfInBounds_toArray, List.set_cons_zero, List.set_cons_succ]))
    refine ty_rel rfl rfl _ rfl rfl (fun wq hq hk => ?_) ?_
    · have f0 := hq.blk B1; have ra := a4 wq; simp only [relAt]; go_simp; (try simp only [relUpon]); exact .mk (Below.refl _ _) () rfl trivial
    rintro ⟨⟩
    (try simp only [Act.put, List.setIfInBounds_toArray, List.set_cons_zero, List.set_cons_succ])
    refine ty_nil ?_
    simp only [List.drop_succ_cons, List.drop_zero]
    intro W8 hw8 hΓ
    have HB8 := Below.thn HB1 hw8.out HB1.size
    clear hΓ hw8
    go_wp2_with fail
    go_ret2
    exact ⟨rfl, HB8⟩
set_option maxHeartbeats 4000000 in
theorem pbytes_bad (st rp nb e : Nat) (ix : Int) (la : Bool) (tx : ByteArray) (he : chk ix tx = e + 1) (w : World) :
    Calls Try.prog 37 #[PV st rp nb ix la tx] w fun z w' => z = .returned (.tuple #[.string ⟨#[]⟩, .int .i64 ((e + 1 : Nat) : Int)]) ∧ Below w.heap.size w w' := by
  have hck := fun W => check_any st rp nb ix la tx W
  rw [he] at hck
  obtain ⟨z, hz⟩ : ∃ z : Nat, e + 1 = z := ⟨_, rfl⟩
  rw [hz] at hck ⊢
  have h0 : ¬ (z : Int) = 0 := by omega
  have CK := Lib.hid hck
  clear hck hz he
  go_enter Try.func37, Try.ntmps37
  go_wp2_with fail
  refine (CK.out _).mono ?_
  rintro e W1 ⟨rfl, hb⟩
  have HB1 : Below w.heap.size w W1 := Below.thn (by (repeat (first | (with_reducible assumption) | (with_reducible exact Below.refl _ _) | with_reducible apply bl_drewN | with_reducible apply Below.drew | (with_reducible apply bl_alloc; focus (first | (simp; done) | (simp; omega) | omega)) | (with_reducible apply bl_set; focus (first | (simp; done) | (simp; omega) | omega))))) hb
  clear hb
  go_wp2_with fail
  go_ret2
  exact ⟨rfl, HB1⟩
end Go.Proofs.Ytkblkdojmfgneaa
