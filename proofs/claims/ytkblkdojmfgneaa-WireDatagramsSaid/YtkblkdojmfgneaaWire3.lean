/- The document's Get; its parts and datagrams. -/
import Derived.Test.YtkblkdojmfgneaaWire2
namespace Go.Proofs.Ytkblkdojmfgneaa
open Go.RowKit
set_option maxHeartbeats 2000000 in
set_option maxRecDepth 20000 in
theorem rget_any (s : ByteArray) (w : World) (hs : s.size ≤ 8) :
    Calls Try.prog 45 #[.string s] w fun e w' => e = .returned (.int .u64 (getS s : Nat)) ∧ Below w.heap.size w w' := by
  unfold getS
  go_enter Try.func45, Try.ntmps45
  go_wp2_with fail
  go_loopg [3, 4] s.size (fun g t4 t15 wr => ∃ j : Nat, j + g = s.size ∧ t4 = .int .u64 (getJ s j : Nat) ∧ t15 = .int .i64 j ∧ Below w.heap.size w wr)
  case atStart => exact ⟨0, by omega, rfl, rfl, by (repeat (first | (with_reducible assumption) | (with_reducible exact Below.refl _ _) | with_reducible apply bl_drewN | with_reducible apply Below.drew | (with_reducible apply bl_alloc; focus (first | (simp; done) | (simp; omega) | omega)) | (with_reducible apply bl_set; focus (first | (simp; done) | (simp; omega) | omega))))⟩
  case round =>
    obtain ⟨j, hj, rfl, rfl, HB⟩ := hrel
    have HBs := HB.size
    have HJ := Lib.hid hj
    cases gk with
    | zero =>
      have hj' : ¬ (j : Int) < s.size := by omega
      have hjs : j = s.size := by omega
      clear hj
      have HJS := Lib.hid hjs
      clear hjs
      go_wp2
      go_ret
      exact ⟨by rw [← HJS.out]; rfl, HB⟩
    | succ g =>
      have hj' : (j : Int) < s.size := by omega
      have hjl : j < s.size := by omega
      have hn := getJ_succ s j hjl
      have hlt := getJ_lt s j (by omega)
      clear hj
      have hlt2 := getJ_lt s (j + 1) (by omega)
      have hpw : 256 ^ (j + 1) ≤ 256 ^ 8 := Nat.pow_le_pow_right (by decide) (by omega)
      have hbt : s.data.toList[j].toNat < 256 := UInt8.toNat_lt _
      have hx : s[j].toNat = s.data.toList[j].toNat := rfl
      obtain ⟨x, hxx⟩ : ∃ x, s.data.toList[j].toNat = x := ⟨_, rfl⟩
      rw [hxx] at hn hbt hx
      obtain ⟨G, hG⟩ : ∃ G, getJ s j = G := ⟨_, rfl⟩
      rw [hG] at hn ⊢
      obtain ⟨G2, hG2⟩ : ∃ G, getJ s (j + 1) = G := ⟨_, rfl⟩
      rw [hG2] at hn hlt2
      have hG2i : (G : Int) * 256 + (x : Int) = (G2 : Int) := by omega
      have hGb : G < 72057594037927936 := by omega
      have HG2 := Lib.hid hG2
      clear hn hlt hlt2 hpw hG hxx hG2
      go_wp2_with fail
      go_roundg g
      case rel => exact ⟨j + 1, by have := HJ.out; omega, by rw [HG2.out], by simp, HB⟩
      case measure => omega
set_option maxHeartbeats 2000000 in
theorem rcheck_any (st rp nb : Nat) (ix : Int) (la : Bool) (tx : ByteArray) (w : World) : Calls Try.prog 38 #[PV st rp nb ix la tx] w fun e w' => e = .returned (.int .i64 (chk ix tx : Nat)) ∧ Below w.heap.size w w' := by
  rcases chk_cases ix tx with ⟨h, e⟩ | ⟨h1, h2, h3, e⟩ | ⟨h1, h2, h3, e⟩
  · rw [e]
    clear e
    by_cases h1 : ix < 0
    · clear h
      go_enter Try.func38, Try.ntmps38
      go_wp2_with fail
      go_ret
      exact ⟨rfl, by (repeat (first | (with_reducible assumption) | (with_reducible exact Below.refl _ _) | with_reducible apply bl_drewN | with_reducible apply Below.drew | (with_reducible apply bl_alloc; focus (first | (simp; done) | (simp; omega) | omega)) | (with_reducible apply bl_set; focus (first | (simp; done) | (simp; omega) | omega))))⟩
    · have h2 : 31 < ix := by omega
      clear h
      go_enter Try.func38, Try.ntmps38
      go_wp2_with fail
      go_ret
      exact ⟨rfl, by (repeat (first | (with_reducible assumption) | (with_reducible exact Below.refl _ _) | with_reducible apply bl_drewN | with_reducible apply Below.drew | (with_reducible apply bl_alloc; focus (first | (simp; done) | (simp; omega) | omega)) | (with_reducible apply bl_set; focus (first | (simp; done) | (simp; omega) | omega))))⟩
  · rw [e]
    clear e
    have g1 : ¬ ix < 0 := by omega
    have g2 : ¬ 31 < ix := by omega
    have g3 : (466 : Int) < (tx.size : Int) := by omega
    clear h1 h2 h3
    go_enter Try.func38, Try.ntmps38
    go_wp2_with fail
    go_ret
    exact ⟨rfl, by (repeat (first | (with_reducible assumption) | (with_reducible exact Below.refl _ _) | with_reducible apply bl_drewN | with_reducible apply Below.drew | (with_reducible apply bl_alloc; focus (first | (simp; done) | (simp; omega) | omega)) | (with_reducible apply bl_set; focus (first | (simp; done) | (simp; omega) | omega))))⟩
  · rw [e]
    clear e
    have g1 : ¬ ix < 0 := by omega
    have g2 : ¬ 31 < ix := by omega
    have g3 : ¬ (466 : Int) < (tx.size : Int) := by omega
    clear h1 h2 h3
    go_enter Try.func38, Try.ntmps38
    go_wp2_with fail
    go_ret
    exact ⟨rfl, by (repeat (first | (with_reducible assumption) | (with_reducible exact Below.refl _ _) | with_reducible apply bl_drewN | with_reducible apply Below.drew | (with_reducible apply bl_alloc; focus (first | (simp; done) | (simp; omega) | omega)) | (with_reducible apply bl_set; focus (first | (simp; done) | (simp; omega) | omega))))⟩
set_option maxHeartbeats 4000000 in
set_option maxRecDepth 20000 in
theorem rbytes_any (st rp nb ix : Nat) (la : Bool) (tx : ByteArray) (h1 : st < 65536) (h2 : rp < 65536) (h3 : nb ≤ 18446744073709551615) (h4 : ix < 32) (h5 : tx.size ≤ 466) (w : World) :
    Calls Try.prog 39 #[PV st rp nb (ix : Int) la tx] w fun e w' => e = .returned (.string (partB st rp nb ix la tx)) ∧ Below w.heap.size w w' := by
  have p1 := fun W => rput_any st 2 (by omega) (by decide) W
  have p2 := fun W => rput_any rp 2 (by omega) (by decide) W
  have p3 := fun W => rput_any nb 8 h3 (by decide) W
  have p4 := fun W => rput_any (nOf ix la) 2 (by unfold nOf; split <;> omega) (by decide) W
  rw [show (⟨(putB st 2).toArray⟩ : ByteArray) = putS st 2 from rfl] at p1
  rw [show (⟨(putB rp 2).toArray⟩ : ByteArray) = putS rp 2 from rfl] at p2
  rw [show (⟨(putB nb 8).toArray⟩ : ByteArray) = putS nb 8 from rfl] at p3
  rw [show (⟨(putB (nOf ix la) 2).toArray⟩ : ByteArray) = putS (nOf ix la) 2 from rfl] at p4
  have s1 := putS_size st 2; have s2 := putS_size rp 2; have s3 := putS_size nb 8; have s4 := putS_size (nOf ix la) 2
  unfold partB
  obtain ⟨n, hn⟩ : ∃ n, nOf ix la = n := ⟨_, rfl⟩
  rw [hn] at p4 s4 ⊢
  have hnt : la = true → (ix : Int) + 32768 = (n : Int) := fun h => by rw [← hn, h]; rfl
  have hnf : la = false → ix = n := fun h => by rw [← hn, h]; rfl
  obtain ⟨A, hA⟩ : ∃ x, putS st 2 = x := ⟨_, rfl⟩
  obtain ⟨B, hB⟩ : ∃ x, putS rp 2 = x := ⟨_, rfl⟩
  obtain ⟨C, hC⟩ : ∃ x, putS nb 8 = x := ⟨_, rfl⟩
  obtain ⟨D, hD⟩ : ∃ x, putS n 2 = x := ⟨_, rfl⟩
  rw [hA] at p1 s1 ⊢; rw [hB] at p2 s2 ⊢; rw [hC] at p3 s3 ⊢; rw [hD] at p4 s4 ⊢
  have sAB : (A ++ B).size = 4 := by rw [sz_app]; omega
  have sABC : (A ++ B ++ C).size = 12 := by rw [sz_app]; omega
  have sABCD : (A ++ B ++ C ++ D).size = 14 := by rw [sz_app]; omega
  have a1 : ∀ W, (Op.stringOp .add A B).run Try.prog W = .ok (.string (A ++ B)) W := fun W => run_string_add_sum W _ _ (by omega)
  have a2 : ∀ W, (Op.stringOp .add (A ++ B) C).run Try.prog W = .ok (.string (A ++ B ++ C)) W := fun W => run_string_add_sum W _ _ (by omega)
  have a3 : ∀ W, (Op.stringOp .add (A ++ B ++ C) D).run Try.prog W = .ok (.string (A ++ B ++ C ++ D)) W := fun W => run_string_add_sum W _ _ (by omega)
  have a4 : ∀ W, (Op.stringOp .add (A ++ B ++ C ++ D) tx).run Try.prog W = .ok (.string (A ++ B ++ C ++ D ++ tx)) W := fun W => run_string_add_sum W _ _ (by omega)
  have P1 := Lib.hid p1; have P2 := Lib.hid p2; have P3 := Lib.hid p3; have P4 := Lib.hid p4
  clear p1 p2 p3 p4 hA hB hC hD hn
  cases la with
  | true =>
    have hnt := hnt rfl
    clear hnf
    go_enter Try.func39, Try.ntmps39
    go_upto_region 4 with fail
    refine wp_absQ (fun W => Below w.heap.size w W ∧ Blk W w.heap.size (PC st rp nb (ix : Int) true tx) 73) ⟨by (repeat (first | (with_reducible assumption) | (with_reducible exact Below.refl _ _) | with_reducible apply bl_drewN | with_reducible apply Below.drew | (with_reducible apply bl_alloc; focus (first | (simp; done) | (simp; omega) | omega)) | (with_reducible apply bl_set; focus (first | (simp; done) | (simp; omega) | omega)))), by (repeat (first | (with_reducible assumption) | (with_reducible apply Blk.new'; (first | (with_reducible rfl) | (simp; done))) | with_reducible apply Blk.alloc | with_reducible apply Blk.set | ((with_reducible apply Blk.set_ne); focus (first | (simp; done) | (simp; omega))) | with_reducible apply Blk.drewN | with_reducible apply Blk.drew))⟩ (fun W1 h5 => ?_)
    obtain ⟨HB1, B1⟩ := h5
    refine wp_region_typed 19 (fun k => match k with | 8 => [3,7] | 12 => [8,11] | 15 => [12,14] | 18 => [15] | _ => []) (fun k => match k with  | _ => false) (fun k => match k with | 3 => some ⟨(Unit), (()), (fun _ => .string A), (fun _ _ => True), (fun _ _ _ h _ => h)⟩ | 7 => some ⟨(Unit), (()), (fun _ => .string B), (fun _ _ => True), (fun _ _ _ h _ => h)⟩ | 8 => some ⟨(Unit), (()), (fun _ => .string (A ++ B)), (fun _ _ => True), (fun _ _ _ h _ => h)⟩ | 11 => some ⟨(Unit), (()), (fun _ => .string C), (fun _ _ => True), (fun _ _ _ h _ => h)⟩ | 12 => some ⟨(Unit), (()), (fun _ => .string (A ++ B ++ C)), (fun _ _ => True), (fun _ _ _ h _ => h)⟩ | 14 => some ⟨(Unit), (()), (fun _ => .string D), (fun _ _ => True), (fun _ _ _ h _ => h)⟩ | 15 => some ⟨(Unit), (()), (fun _ => .string (A ++ B ++ C ++ D)), (fun _ _ => True), (fun _ _ _ h _ => h)⟩ | 18 => some ⟨(Unit), (()), (fun _ => .string (A ++ B ++ C ++ D ++ tx)), (fun _ _ => True), (fun _ _ _ h _ => h)⟩ | _ => none) (by kernel_rfl) (by kernel_rfl) (by intro d0 v0 c0 a0 w0 h0; first | (cases d0 <;> exact h0) | exact hP _ _ _ _ _ h0) ?_
    rw [show List.range 19 = [0, 1, 2, 3, 4, 5, 6, 7, 8, 9, 10, 11, 12, 13, 14, 15, 16, 17, 18] from rfl]
    first
      | (refine ty_skip rfl rfl ?_; (try simp only [Act.put, List.setIfInBounds_toArray, List.set_cons_zero, List.set_cons_succ]))
      | (refine ty_pure rfl rfl rfl rfl ?_; apply Exists.intro; refine ⟨fun wq hq hk => ?_, ?_⟩
         · have f0 := hq.blk B1; simp only [pureAt]; go_simp; (try simp only [↓IntWalk.iteOmega]); (try go_bits); (try simp only [pureUpon]); (first | done | exact ⟨rfl, rfl⟩ | exact ⟨trivial, rfl⟩ | rfl)
         (try simp only [Act.put, List.setIfInBounds_toArray, List.set_cons_zero, List.set_cons_succ]))
    first
      | (refine ty_skip rfl rfl ?_; (try simp only [Act.put, List.setIfInBounds_toArray, List.set_cons_zero, List.set_cons_succ]))
      | (refine ty_pure rfl rfl rfl rfl ?_; apply Exists.intro; refine ⟨fun wq hq hk => ?_, ?_⟩
         · have f0 := hq.blk B1; simp only [pureAt]; go_simp; (try simp only [↓IntWalk.iteOmega]); (try go_bits); (try simp only [pureUpon]); (first | done | exact ⟨rfl, rfl⟩ | exact ⟨trivial, rfl⟩ | rfl)
         (try simp only [Act.put, List.setIfInBounds_toArray, List.set_cons_zero, List.set_cons_succ]))
    first
      | (refine ty_skip rfl rfl ?_; (try simp only [Act.put, List.setIfInBounds_toArray, List.set_cons_zero, List.set_cons_succ]))
      | (refine ty_pure rfl rfl rfl rfl ?_; apply Exists.intro; refine ⟨fun wq hq hk => ?_, ?_⟩
         · have f0 := hq.blk B1; simp only [pureAt]; go_simp; (try simp only [↓IntWalk.iteOmega]); (try go_bits); (try simp only [pureUpon]); (first | done | exact ⟨rfl, rfl⟩ | exact ⟨trivial, rfl⟩ | rfl)
         (try simp only [Act.put, List.setIfInBounds_toArray, List.set_cons_zero, List.set_cons_succ]))
    refine ty_rel rfl rfl _ rfl rfl (fun wq hq hk => ?_) ?_
    · have f0 := hq.blk B1; simp only [relAt]; go_simp; (try simp only [relUpon]); (go_at_call 18; refine (P1.out _).mono ?_; rintro e w9 ⟨rfl, hb9⟩; exact ⟨_, rfl, .mk hb9 () rfl trivial⟩)
    rintro ⟨⟩
    (try simp only [Act.put, List.setIfInBounds_toArray, List.set_cons_zero, List.set_cons_succ])
    first
      | (refine ty_skip rfl rfl ?_; (try simp only [Act.put, List.setIfInBounds_toArray, List.set_cons_zero, List.set_cons_succ]))
      | (refine ty_pure rfl rfl rfl rfl ?_; apply Exists.intro; refine ⟨fun wq hq hk => ?_, ?_⟩
         · have f0 := hq.blk B1; simp only [pureAt]; go_simp; (try simp only [↓IntWalk.iteOmega]); (try go_bits); (try simp only [pureUpon]); (first | done | exact ⟨rfl, rfl⟩ | exact ⟨trivial, rfl⟩ | rfl)
         (try simp only [Act.put, List.setIfInBounds_toArray, List.set_cons_zero, List.set_cons_succ]))
    first
      | (refine ty_skip rfl rfl ?_; (try simp only [Act.put, List.setIfInBounds_toArray, List.set_cons_zero, List.set_cons_succ]))
      | (refine ty_pure rfl rfl rfl rfl ?_; apply Exists.intro; refine ⟨fun wq hq hk => ?_, ?_⟩
         · have f0 := hq.blk B1; simp only [pureAt]; go_simp; (try simp only [↓IntWalk.iteOmega]); (try go_bits); (try simp only [pureUpon]); (first | done | exact ⟨rfl, rfl⟩ | exact ⟨trivial, rfl⟩ | rfl)
         (try simp only [Act.put, List.setIfInBounds_toArray, List.set_cons_zero, List.set_cons_succ]))
    first
      | (refine ty_skip rfl rfl ?_; (try simp only [Act.put, List.setIfInBounds_toArray, List.set_cons_zero, List.set_cons_succ]))
      | (refine ty_pure rfl rfl rfl rfl ?_; apply Exists.intro; refine ⟨fun wq hq hk => ?_, ?_⟩
         · have f0 := hq.blk B1; simp only [pureAt]; go_simp; (try simp only [↓IntWalk.iteOmega]); (try go_bits); (try simp only [pureUpon]); (first | done | exact ⟨rfl, rfl⟩ | exact ⟨trivial, rfl⟩ | rfl)
         (try simp only [Act.put, List.setIfInBounds_toArray, List.set_cons_zero, List.set_cons_succ]))
    refine ty_rel rfl rfl _ rfl rfl (fun wq hq hk => ?_) ?_
    · have f0 := hq.blk B1; simp only [relAt]; go_simp; (try simp only [relUpon]); (go_at_call 18; refine (P2.out _).mono ?_; rintro e w9 ⟨rfl, hb9⟩; exact ⟨_, rfl, .mk hb9 () rfl trivial⟩)
    rintro ⟨⟩
    (try simp only [Act.put, List.setIfInBounds_toArray, List.set_cons_zero, List.set_cons_succ])
    refine ty_rel rfl rfl _ rfl rfl (fun wq hq hk => ?_) ?_
    · have f0 := hq.blk B1; have ra := a1 wq; simp only [relAt]; go_simp; (try simp only [relUpon]); exact .mk (Below.refl _ _) () rfl trivial
    rintro ⟨⟩
    (try simp only [Act.put, List.setIfInBounds_toArray, List.set_cons_zero, List.set_cons_succ])
    first
      | (refine ty_skip rfl rfl ?_; (try simp only [Act.put, List.setIfInBounds_toArray, List.set_cons_zero, List.set_cons_succ]))
      | (refine ty_pure rfl rfl rfl rfl ?_; apply Exists.intro; refine ⟨fun wq hq hk => ?_, ?_⟩
         · have f0 := hq.blk B1; simp only [pureAt]; go_simp; (try simp only [↓IntWalk.iteOmega]); (try go_bits); (try simp only [pureUpon]); (first | done | exact ⟨rfl, rfl⟩ | exact ⟨trivial, rfl⟩ | rfl)
         (try simp only [Act.put, List.setIfInBounds_toArray, List.set_cons_zero, List.set_cons_succ]))
    first
      | (refine ty_skip rfl rfl ?_; (try simp only [Act.put, List.setIfInBounds_toArray, List.set_cons_zero, List.set_cons_succ]))
      | (refine ty_pure rfl rfl rfl rfl ?_; apply Exists.intro; refine ⟨fun wq hq hk => ?_, ?_⟩
         · have f0 := hq.blk B1; simp only [pureAt]; go_simp; (try simp only [↓IntWalk.iteOmega]); (try go_bits); (try simp only [pureUpon]); (first | done | exact ⟨rfl, rfl⟩ | exact ⟨trivial, rfl⟩ | rfl)
         (try simp only [Act.put, List.setIfInBounds_toArray, List.set_cons_zero, List.set_cons_succ]))
    refine ty_rel rfl rfl _ rfl rfl (fun wq hq hk => ?_) ?_
    · have f0 := hq.blk B1; simp only [relAt]; go_simp; (try simp only [relUpon]); (go_at_call 18; refine (P3.out _).mono ?_; rintro e w9 ⟨rfl, hb9⟩; exact ⟨_, rfl, .mk hb9 () rfl trivial⟩)
    rintro ⟨⟩
    (try simp only [Act.put, List.setIfInBounds_toArray, List.set_cons_zero, List.set_cons_succ])
    refine ty_rel rfl rfl _ rfl rfl (fun wq hq hk => ?_) ?_
    · have f0 := hq.blk B1; have ra := a2 wq; simp only [relAt]; go_simp; (try simp only [relUpon]); exact .mk (Below.refl _ _) () rfl trivial
    rintro ⟨⟩
    (try simp only [Act.put, List.setIfInBounds_toArray, List.set_cons_zero, List.set_cons_succ])
    first
      | (refine ty_skip rfl rfl ?_; (try simp only [Act.put, List.setIfInBounds_toArray, List.set_cons_zero, List.set_cons_succ]))
      | (refine ty_pure rfl rfl rfl rfl ?_; apply Exists.intro; refine ⟨fun wq hq hk => ?_, ?_⟩
         · have f0 := hq.blk B1; simp only [pureAt]; go_simp; (try simp only [↓IntWalk.iteOmega]); (try go_bits); (try simp only [pureUpon]); (first | done | exact ⟨rfl, rfl⟩ | exact ⟨trivial, rfl⟩ | rfl)
         (try simp only [Act.put, List.setIfInBounds_toArray, List.set_cons_zero, List.set_cons_succ]))
    refine ty_rel rfl rfl _ rfl rfl (fun wq hq hk => ?_) ?_
    · have f0 := hq.blk B1; simp only [relAt]; go_simp; (try simp only [relUpon]); (go_at_call 18; refine (P4.out _).mono ?_; rintro e w9 ⟨rfl, hb9⟩; exact ⟨_, rfl, .mk hb9 () rfl trivial⟩)
    rintro ⟨⟩
    (try simp only [Act.put, List.setIfInBounds_toArray, List.set_cons_zero, List.set_cons_succ])
    refine ty_rel rfl rfl _ rfl rfl (fun wq hq hk => ?_) ?_
    · have f0 := hq.blk B1; have ra := a3 wq; simp only [relAt]; go_simp; (try simp only [relUpon]); exact .mk (Below.refl _ _) () rfl trivial
    rintro ⟨⟩
    (try simp only [Act.put, List.setIfInBounds_toArray, List.set_cons_zero, List.set_cons_succ])
    first
      | (refine ty_skip rfl rfl ?_; (try simp only [Act.put, List.setIfInBounds_toArray, List.set_cons_zero, List.set_cons_succ]))
      | (refine ty_pure rfl rfl rfl rfl ?_; apply Exists.intro; refine ⟨fun wq hq hk => ?_, ?_⟩
         · have f0 := hq.blk B1; simp only [pureAt]; go_simp; (try simp only [↓IntWalk.iteOmega]); (try go_bits); (try simp only [pureUpon]); (first | done | exact ⟨rfl, rfl⟩ | exact ⟨trivial, rfl⟩ | rfl)
         (try simp only [Act.put, List.setIfInBounds_toArray, List.set_cons_zero, List.set_cons_succ]))
    first
      | (refine ty_skip rfl rfl ?_; (try simp only [Act.put, List.setIfInBounds_toArray, List.set_cons_zero, List.set_cons_succ]))
      | (refine ty_pure rfl rfl rfl rfl ?_; apply Exists.intro; refine ⟨fun wq hq hk => ?_, ?_⟩
         · have f0 := hq.blk B1; simp only [pureAt]; go_simp; (try simp only [↓IntWalk.iteOmega]); (try go_bits); (try simp only [pureUpon]); (first | done | exact ⟨rfl, rfl⟩ | exact ⟨trivial, rfl⟩ | rfl)
         (try simp only [Act.put, List.setIfInBounds_toArray, List.set_cons_zero, List.set_cons_succ]))
    refine ty_rel rfl rfl _ rfl rfl (fun wq hq hk => ?_) ?_
    · have f0 := hq.blk B1; have ra := a4 wq; simp only [relAt]; go_simp; (try simp only [relUpon]); exact .mk (Below.refl _ _) () rfl trivial
    rintro ⟨⟩
    (try simp only [Act.put, List.setIfInBounds_toArray, List.set_cons_zero, List.set_cons_succ])
    refine ty_nil ?_
    simp only [List.drop_succ_cons, List.drop_zero]
    intro W8 hw8 hΓ
    have HB8 := Below.thn HB1 hw8.out HB1.size
    clear hΓ hw8
    go_wp2_with fail
    go_ret
    exact ⟨rfl, HB8⟩
  | false =>
    have hnf := hnf rfl
    subst hnf
    clear hnt
    go_enter Try.func39, Try.ntmps39
    go_upto_region 4 with fail
    refine wp_absQ (fun W => Below w.heap.size w W ∧ Blk W w.heap.size (PC st rp nb (ix : Int) false tx) 73) ⟨by (repeat (first | (with_reducible assumption) | (with_reducible exact Below.refl _ _) | with_reducible apply bl_drewN | with_reducible apply Below.drew | (with_reducible apply bl_alloc; focus (first | (simp; done) | (simp; omega) | omega)) | (with_reducible apply bl_set; focus (first | (simp; done) | (simp; omega) | omega)))), by (repeat (first | (with_reducible assumption) | (with_reducible apply Blk.new'; (first | (with_reducible rfl) | (simp; done))) | with_reducible apply Blk.alloc | with_reducible apply Blk.set | ((with_reducible apply Blk.set_ne); focus (first | (simp; done) | (simp; omega))) | with_reducible apply Blk.drewN | with_reducible apply Blk.drew))⟩ (fun W1 h5 => ?_)
    obtain ⟨HB1, B1⟩ := h5
    refine wp_region_typed 19 (fun k => match k with | 8 => [3,7] | 12 => [8,11] | 15 => [12,14] | 18 => [15] | _ => []) (fun k => match k with  | _ => false) (fun k => match k with | 3 => some ⟨(Unit), (()), (fun _ => .string A), (fun _ _ => True), (fun _ _ _ h _ => h)⟩ | 7 => some ⟨(Unit), (()), (fun _ => .string B), (fun _ _ => True), (fun _ _ _ h _ => h)⟩ | 8 => some ⟨(Unit), (()), (fun _ => .string (A ++ B)), (fun _ _ => True), (fun _ _ _ h _ => h)⟩ | 11 => some ⟨(Unit), (()), (fun _ => .string C), (fun _ _ => True), (fun _ _ _ h _ => h)⟩ | 12 => some ⟨(Unit), (()), (fun _ => .string (A ++ B ++ C)), (fun _ _ => True), (fun _ _ _ h _ => h)⟩ | 14 => some ⟨(Unit), (()), (fun _ => .string D), (fun _ _ => True), (fun _ _ _ h _ => h)⟩ | 15 => some ⟨(Unit), (()), (fun _ => .string (A ++ B ++ C ++ D)), (fun _ _ => True), (fun _ _ _ h _ => h)⟩ | 18 => some ⟨(Unit), (()), (fun _ => .string (A ++ B ++ C ++ D ++ tx)), (fun _ _ => True), (fun _ _ _ h _ => h)⟩ | _ => none) (by kernel_rfl) (by kernel_rfl) (by intro d0 v0 c0 a0 w0 h0; first | (cases d0 <;> exact h0) | exact hP _ _ _ _ _ h0) ?_
    rw [show List.range 19 = [0, 1, 2, 3, 4, 5, 6, 7, 8, 9, 10, 11, 12, 13, 14, 15, 16, 17, 18] from rfl]
    first
      | (refine ty_skip rfl rfl ?_; (try simp only [Act.put, List.setIfInBounds_toArray, List.set_cons_zero, List.set_cons_succ]))
      | (refine ty_pure rfl rfl rfl rfl ?_; apply Exists.intro; refine ⟨fun wq hq hk => ?_, ?_⟩
         · have f0 := hq.blk B1; simp only [pureAt]; go_simp; (try simp only [↓IntWalk.iteOmega]); (try go_bits); (try simp only [pureUpon]); (first | done | exact ⟨rfl, rfl⟩ | exact ⟨trivial, rfl⟩ | rfl)
         (try simp only [Act.put, List.setIfInBounds_toArray, List.set_cons_zero, List.set_cons_succ]))
    first
      | (refine ty_skip rfl rfl ?_; (try simp only [Act.put, List.setIfInBounds_toArray, List.set_cons_zero, List.set_cons_succ]))
      | (refine ty_pure rfl rfl rfl rfl ?_; apply Exists.intro; refine ⟨fun wq hq hk => ?_, ?_⟩
         · have f0 := hq.blk B1; simp only [pureAt]; go_simp; (try simp only [↓IntWalk.iteOmega]); (try go_bits); (try simp only [pureUpon]); (first | done | exact ⟨rfl, rfl⟩ | exact ⟨trivial, rfl⟩ | rfl)
         (try simp only [Act.put, List.setIfInBounds_toArray, List.set_cons_zero, List.set_cons_succ]))
    first
      | (refine ty_skip rfl rfl ?_; (try simp only [Act.put, List.setIfInBounds_toArray, List.set_cons_zero, List.set_cons_succ]))
      | (refine ty_pure rfl rfl rfl rfl ?_; apply Exists.intro; refine ⟨fun wq hq hk => ?_, ?_⟩
         · have f0 := hq.blk B1; simp only [pureAt]; go_simp; (try simp only [↓IntWalk.iteOmega]); (try go_bits); (try simp only [pureUpon]); (first | done | exact ⟨rfl, rfl⟩ | exact ⟨trivial, rfl⟩ | rfl)
         (try simp only [Act.put, List.setIfInBounds_toArray, List.set_cons_zero, List.set_cons_succ]))
    refine ty_rel rfl rfl _ rfl rfl (fun wq hq hk => ?_) ?_
    · have f0 := hq.blk B1; simp only [relAt]; go_simp; (try simp only [relUpon]); (go_at_call 18; refine (P1.out _).mono ?_; rintro e w9 ⟨rfl, hb9⟩; exact ⟨_, rfl, .mk hb9 () rfl trivial⟩)
    rintro ⟨⟩
    (try simp only [Act.put, List.setIfInBounds_toArray, List.set_cons_zero, List.set_cons_succ])
    first
      | (refine ty_skip rfl rfl ?_; (try simp only [Act.put, List.setIfInBounds_toArray, List.set_cons_zero, List.set_cons_succ]))
      | (refine ty_pure rfl rfl rfl rfl ?_; apply Exists.intro; refine ⟨fun wq hq hk => ?_, ?_⟩
         · have f0 := hq.blk B1; simp only [pureAt]; go_simp; (try simp only [↓IntWalk.iteOmega]); (try go_bits); (try simp only [pureUpon]); (first | done | exact ⟨rfl, rfl⟩ | exact ⟨trivial, rfl⟩ | rfl)
         (try simp only [Act.put, List.setIfInBounds_toArray, List.set_cons_zero, List.set_cons_succ]))
    first
      | (refine ty_skip rfl rfl ?_; (try simp only [Act.put, List.setIfInBounds_toArray, List.set_cons_zero, List.set_cons_succ]))
      | (refine ty_pure rfl rfl rfl rfl ?_; apply Exists.intro; refine ⟨fun wq hq hk => ?_, ?_⟩
         · have f0 := hq.blk B1; simp only [pureAt]; go_simp; (try simp only [↓IntWalk.iteOmega]); (try go_bits); (try simp only [pureUpon]); (first | done | exact ⟨rfl, rfl⟩ | exact ⟨trivial, rfl⟩ | rfl)
         (try simp only [Act.put, List.setIfInBounds_toArray, List.set_cons_zero, List.set_cons_succ]))
    first
      | (refine ty_skip rfl rfl ?_; (try simp only [Act.put, List.setIfInBounds_toArray, List.set_cons_zero, List.set_cons_succ]))
      | (refine ty_pure rfl rfl rfl rfl ?_; apply Exists.intro; refine ⟨fun wq hq hk => ?_, ?_⟩
         · have f0 := hq.blk B1; simp only [pureAt]; go_simp; (try simp only [↓IntWalk.iteOmega]); (try go_bits); (try simp only [pureUpon]); (first | done | exact ⟨rfl, rfl⟩ | exact ⟨trivial, rfl⟩ | rfl)
         (try simp only [Act.put, List.setIfInBounds_toArray, List.set_cons_zero, List.set_cons_succ]))
    refine ty_rel rfl rfl _ rfl rfl (fun wq hq hk => ?_) ?_
    · have f0 := hq.blk B1; simp only [relAt]; go_simp; (try simp only [relUpon]); (go_at_call 18; refine (P2.out _).mono ?_; rintro e w9 ⟨rfl, hb9⟩; exact ⟨_, rfl, .mk hb9 () rfl trivial⟩)
    rintro ⟨⟩
    (try simp only [Act.put, List.setIfInBounds_toArray, List.set_cons_zero, List.set_cons_succ])
    refine ty_rel rfl rfl _ rfl rfl (fun wq hq hk => ?_) ?_
    · have f0 := hq.blk B1; have ra := a1 wq; simp only [relAt]; go_simp; (try simp only [relUpon]); exact .mk (Below.refl _ _) () rfl trivial
    rintro ⟨⟩
    (try simp only [Act.put, List.setIfInBounds_toArray, List.set_cons_zero, List.set_cons_succ])
    first
      | (refine ty_skip rfl rfl ?_; (try simp only [Act.put, List.setIfInBounds_toArray, List.set_cons_zero, List.set_cons_succ]))
      | (refine ty_pure rfl rfl rfl rfl ?_; apply Exists.intro; refine ⟨fun wq hq hk => ?_, ?_⟩
         · have f0 := hq.blk B1; simp only [pureAt]; go_simp; (try simp only [↓IntWalk.iteOmega]); (try go_bits); (try simp only [pureUpon]); (first | done | exact ⟨rfl, rfl⟩ | exact ⟨trivial, rfl⟩ | rfl)
         (try simp only [Act.put, List.setIfInBounds_toArray, List.set_cons_zero, List.set_cons_succ]))
    first
      | (refine ty_skip rfl rfl ?_; (try simp only [Act.put, List.setIfInBounds_toArray, List.set_cons_zero, List.set_cons_succ]))
      | (refine ty_pure rfl rfl rfl rfl ?_; apply Exists.intro; refine ⟨fun wq hq hk => ?_, ?_⟩
         · have f0 := hq.blk B1; simp only [pureAt]; go_simp; (try simp only [↓IntWalk.iteOmega]); (try go_bits); (try simp only [pureUpon]); (first | done | exact ⟨rfl, rfl⟩ | exact ⟨trivial, rfl⟩ | rfl)
         (try simp only [Act.put, List.setIfInBounds_toArray, List.set_cons_zero, List.set_cons_succ]))
    refine ty_rel rfl rfl _ rfl rfl (fun wq hq hk => ?_) ?_
    · have f0 := hq.blk B1; simp only [relAt]; go_simp; (try simp only [relUpon]); (go_at_call 18; refine (P3.out _).mono ?_; rintro e w9 ⟨rfl, hb9⟩; exact ⟨_, rfl, .mk hb9 () rfl trivial⟩)
    rintro ⟨⟩
    (try simp only [Act.put, List.setIfInBounds_toArray, List.set_cons_zero, List.set_cons_succ])
    refine ty_rel rfl rfl _ rfl rfl (fun wq hq hk => ?_) ?_
    · have f0 := hq.blk B1; have ra := a2 wq; simp only [relAt]; go_simp; (try simp only [relUpon]); exact .mk (Below.refl _ _) () rfl trivial
    rintro ⟨⟩
    (try simp only [Act.put, List.setIfInBounds_toArray, List.set_cons_zero, List.set_cons_succ])
    first
      | (refine ty_skip rfl rfl ?_; (try simp only [Act.put, List.setIfInBounds_toArray, List.set_cons_zero, List.set_cons_succ]))
      | (refine ty_pure rfl rfl rfl rfl ?_; apply Exists.intro; refine ⟨fun wq hq hk => ?_, ?_⟩
         · have f0 := hq.blk B1; simp only [pureAt]; go_simp; (try simp only [↓IntWalk.iteOmega]); (try go_bits); (try simp only [pureUpon]); (first | done | exact ⟨rfl, rfl⟩ | exact ⟨trivial, rfl⟩ | rfl)
         (try simp only [Act.put, List.setIfInBounds_toArray, List.set_cons_zero, List.set_cons_succ]))
    refine ty_rel rfl rfl _ rfl rfl (fun wq hq hk => ?_) ?_
    · have f0 := hq.blk B1; simp only [relAt]; go_simp; (try simp only [relUpon]); (go_at_call 18; refine (P4.out _).mono ?_; rintro e w9 ⟨rfl, hb9⟩; exact ⟨_, rfl, .mk hb9 () rfl trivial⟩)
    rintro ⟨⟩
    (try simp only [Act.put, List.setIfInBounds_toArray, List.set_cons_zero, List.set_cons_succ])
    refine ty_rel rfl rfl _ rfl rfl (fun wq hq hk => ?_) ?_
    · have f0 := hq.blk B1; have ra := a3 wq; simp only [relAt]; go_simp; (try simp only [relUpon]); exact .mk (Below.refl _ _) () rfl trivial
    rintro ⟨⟩
    (try simp only [Act.put, List.setIfInBounds_toArray, List.set_cons_zero, List.set_cons_succ])
    first
      | (refine ty_skip rfl rfl ?_; (try simp only [Act.put, List.setIfInBounds_toArray, List.set_cons_zero, List.set_cons_succ]))
      | (refine ty_pure rfl rfl rfl rfl ?_; apply Exists.intro; refine ⟨fun wq hq hk => ?_, ?_⟩
         · have f0 := hq.blk B1; simp only [pureAt]; go_simp; (try simp only [↓IntWalk.iteOmega]); (try go_bits); (try simp only [pureUpon]); (first | done | exact ⟨rfl, rfl⟩ | exact ⟨trivial, rfl⟩ | rfl)
         (try simp only [Act.put, List.setIfInBounds_toArray, List.set_cons_zero, List.set_cons_succ]))
    first
      | (refine ty_skip rfl rfl ?_; (try simp only [Act.put, List.setIfInBounds_toArray, List.set_cons_zero, List.set_cons_succ]))
      | (refine ty_pure rfl rfl rfl rfl ?_; apply Exists.intro; refine ⟨fun wq hq hk => ?_, ?_⟩
         · have f0 := hq.blk B1; simp only [pureAt]; go_simp; (try simp only [↓IntWalk.iteOmega]); (try go_bits); (try simp only [pureUpon]); (first | done | exact ⟨rfl, rfl⟩ | exact ⟨trivial, rfl⟩ | rfl)
         (try simp only [Act.put, List.setIfInBounds_toArray, List.set_cons_zero, List.set_cons_succ]))
    refine ty_rel rfl rfl _ rfl rfl (fun wq hq hk => ?_) ?_
    · have f0 := hq.blk B1; have ra := a4 wq; simp only [relAt]; go_simp; (try simp only [relUpon]); exact .mk (Below.refl _ _) () rfl trivial
    rintro ⟨⟩
    (try simp only [Act.put, List.setIfInBounds_toArray, List.set_cons_zero, List.set_cons_succ])
    refine ty_nil ?_
    simp only [List.drop_succ_cons, List.drop_zero]
    intro W8 hw8 hΓ
    have HB8 := Below.thn HB1 hw8.out HB1.size
    clear hΓ hw8
    go_wp2_with fail
    go_ret
    exact ⟨rfl, HB8⟩
set_option maxHeartbeats 2000000 in
theorem rgram_any (id no : Nat) (se : ByteArray) (h1 : id ≤ 18446744073709551615) (h2 : no ≤ 18446744073709551615) (hs : se.size ≤ 100000) (w : World) :
    Calls Try.prog 43 #[.int .u64 (id : Int), .int .u64 (no : Int), .string se] w fun e w' => e = .returned (.tuple #[.string (if szd (16 + se.size) = 0 then gramB id no se else ⟨#[]⟩), .int .i64 (szd (16 + se.size) : Nat)]) ∧ Below w.heap.size w w' := by
  unfold szd
  by_cases g1 : se.size < 16
  · have g1i : (se.size : Int) < 16 := by omega
    rw [if_pos (show 16 + se.size < 32 by omega), if_neg (by decide)]
    clear g1
    go_enter Try.func43, Try.ntmps43
    go_wp2_with fail
    go_ret2
    exact ⟨rfl, by (repeat (first | (with_reducible assumption) | (with_reducible exact Below.refl _ _) | with_reducible apply bl_drewN | with_reducible apply Below.drew | (with_reducible apply bl_alloc; focus (first | (simp; done) | (simp; omega) | omega)) | (with_reducible apply bl_set; focus (first | (simp; done) | (simp; omega) | omega))))⟩
  have g1i : ¬ (se.size : Int) < 16 := by omega
  rw [if_neg (show ¬ 16 + se.size < 32 by omega)]
  clear g1
  by_cases g2 : 496 < se.size
  · have g2i : (496 : Int) < (se.size : Int) := by omega
    rw [if_pos (show 512 < 16 + se.size by omega), if_neg (by decide)]
    clear g2
    go_enter Try.func43, Try.ntmps43
    go_wp2_with fail
    go_ret2
    exact ⟨rfl, by (repeat (first | (with_reducible assumption) | (with_reducible exact Below.refl _ _) | with_reducible apply bl_drewN | with_reducible apply Below.drew | (with_reducible apply bl_alloc; focus (first | (simp; done) | (simp; omega) | omega)) | (with_reducible apply bl_set; focus (first | (simp; done) | (simp; omega) | omega))))⟩
  have g2i : ¬ (496 : Int) < (se.size : Int) := by omega
  rw [if_neg (show ¬ 512 < 16 + se.size by omega), if_pos rfl]
  have p1 := fun W => rput_any id 8 h1 (by decide) W
  have p2 := fun W => rput_any no 8 h2 (by decide) W
  rw [show (⟨(putB id 8).toArray⟩ : ByteArray) = putS id 8 from rfl] at p1
  rw [show (⟨(putB no 8).toArray⟩ : ByteArray) = putS no 8 from rfl] at p2
  have s1 := putS_size id 8; have s2 := putS_size no 8
  unfold gramB
  obtain ⟨A, hA⟩ : ∃ x, putS id 8 = x := ⟨_, rfl⟩
  obtain ⟨B, hB⟩ : ∃ x, putS no 8 = x := ⟨_, rfl⟩
  rw [hA] at p1 s1 ⊢; rw [hB] at p2 s2 ⊢
  have sAB : (A ++ B).size = 16 := by rw [sz_app]; omega
  have a1 : ∀ W, (Op.stringOp .add A B).run Try.prog W = .ok (.string (A ++ B)) W := fun W => run_string_add_sum W _ _ (by omega)
  have a2 : ∀ W, (Op.stringOp .add (A ++ B) se).run Try.prog W = .ok (.string (A ++ B ++ se)) W := fun W => run_string_add_sum W _ _ (by omega)
  have P1 := Lib.hid p1; have P2 := Lib.hid p2
  clear p1 p2 hA hB g2
  go_enter Try.func43, Try.ntmps43
  go_wp2_with fail
  refine (P1.out _).mono ?_
  rintro e W1 ⟨rfl, hb⟩
  have HB1 : Below w.heap.size w W1 := hb
  clear hb
  go_wp2_with fail
  refine (P2.out _).mono ?_
  rintro e W2 ⟨rfl, hb⟩
  have HB2 : Below w.heap.size w W2 := Below.thn HB1 hb HB1.size
  clear hb
  have r1 := a1 W2; have r2 := a2 W2
  go_wp2_with fail
  go_ret2
  exact ⟨rfl, HB2⟩
set_option maxHeartbeats 2000000 in
set_option maxRecDepth 20000 in
theorem rread_short (s : ByteArray) (h : s.size < 14) (w : World) :
    Calls Try.prog 41 #[.string s] w fun z w' => z = .returned (.tuple #[PV 0 0 0 0 false ⟨#[]⟩, .int .i64 3]) ∧ Below w.heap.size w w' := by
  have hi : (s.size : Int) < 14 := by omega
  clear h
  go_enter Try.func41, Try.ntmps41
  go_wp2_with fail
  refine bodyPost_ret (v := .tuple #[PV 0 0 0 0 false ⟨#[]⟩, .int .i64 3]) ?_ rfl ⟨rfl, ?_⟩
  · simp [results, Try.results41, go_sem]
  · repeat (first | (with_reducible assumption) | (with_reducible exact Below.refl _ _) | with_reducible apply bl_drewN | with_reducible apply Below.drew | (with_reducible apply bl_alloc; focus (first | (simp; done) | (simp; omega) | omega)) | (with_reducible apply bl_set; focus (first | (simp; done) | (simp; omega) | omega)))
end Go.Proofs.Ytkblkdojmfgneaa
