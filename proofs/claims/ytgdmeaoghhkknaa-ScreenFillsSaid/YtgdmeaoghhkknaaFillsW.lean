/- ScreenFills: the walk. -/
import Derived.Test.YtgdmeaoghhkknaaScrAwake
import Derived.Test.YtgdmeaoghhkknaaScrF
namespace Go.Proofs.Ytgdmeaoghhkknaa
open Go.RowKit

set_option maxHeartbeats 4000000 in
set_option maxRecDepth 20000 in
theorem fills_out (cw ch : Int) (t : ByteArray) (w : World) (ht : t.size ≤ 140737488355328) (h : cw < 1 ∨ 80 < cw ∨ ch < 1 ∨ 24 < ch) :
    Calls Try.prog 3 #[.int .i64 cw, .int .i64 ch, .string t] w fun e w' => e = .returned (.bool true) ∧ Below w.heap.size w w' := by
  by_cases h1 : cw < 1
  · go_enter Try.func3, Try.ntmps3
    go_wp2_with fail
    refine (awake11 _).mono ?_
    rintro e w1 ⟨rfl, hb⟩
    go_wp2
    go_ret
    exact ⟨rfl, hb⟩
  by_cases h2 : 80 < cw
  · go_enter Try.func3, Try.ntmps3
    go_wp2_with fail
    refine (awake11 _).mono ?_
    rintro e w1 ⟨rfl, hb⟩
    go_wp2
    go_ret
    exact ⟨rfl, hb⟩
  by_cases h3 : ch < 1
  · go_enter Try.func3, Try.ntmps3
    go_wp2_with fail
    refine (awake11 _).mono ?_
    rintro e w1 ⟨rfl, hb⟩
    go_wp2
    go_ret
    exact ⟨rfl, hb⟩
  have h4 : 24 < ch := by omega
  go_enter Try.func3, Try.ntmps3
  go_wp2_with fail
  refine (awake11 _).mono ?_
  rintro e w1 ⟨rfl, hb⟩
  go_wp2
  go_ret
  exact ⟨rfl, hb⟩
set_option maxHeartbeats 8000000 in
set_option maxRecDepth 20000 in
theorem fills_walk (cw ch : Nat) (t : ByteArray) (w : World) (ht : t.size ≤ 140737488355328) (w1 : 1 ≤ cw) (w2 : cw ≤ 80) (h1 : 1 ≤ ch) (h2 : ch ≤ 24) :
    Calls Try.prog 3 #[.int .i64 cw, .int .i64 ch, .string t] w fun e w' => e = .returned (.bool true) ∧ Below w.heap.size w w' := by
  have g1 : ¬ (cw : Int) < 1 := by omega
  have g2 : ¬ (80 : Int) < cw := by omega
  have g3 : ¬ (ch : Int) < 1 := by omega
  have g4 : ¬ (24 : Int) < ch := by omega
  obtain ⟨n, hn⟩ : ∃ n, cw * ch = n := ⟨_, rfl⟩
  have hmul : (cw : Int) * (ch : Int) = (n : Int) := by rw [← hn]; simp
  have hn2 : n ≤ 1920 := by rw [← hn]; exact wh_small w2 h2
  have hcwn : cw ≤ n := by rw [← hn]; exact wh_le h1
  have HN := Lib.hid hn
  clear hn
  by_cases hlong : n < t.size
  · have g5 : (n : Int) < t.size := by omega
    go_enter Try.func3, Try.ntmps3
    go_wp2_with fail
    refine (awake11 _).mono ?_
    rintro e w1 ⟨rfl, hb⟩
    go_wp2
    go_ret
    exact ⟨rfl, hb⟩
  have g5 : ¬ (n : Int) < t.size := by omega
  go_enter Try.func3, Try.ntmps3
  go_wp2_with fail
  refine (awake11 _).mono ?_
  rintro e wa ⟨rfl, HBa⟩
  have HBas := HBa.size
  go_wp2_with fail
  go_loopg [39] t.size (fun k t39 wr => ∃ j : Nat, t39 = .int .i64 j ∧ j + k = t.size ∧ (∀ i (hi : i < t.data.toList.length), i < j → plain t.data.toList[i]) ∧ wr = wa)
  case atStart => exact ⟨0, rfl, by omega, fun i hi h => by omega, rfl⟩
  case round =>
    obtain ⟨j, rfl, hj, hpl, rfl⟩ := hrel
    have HJ := Lib.hid hj
    have HPL := Lib.hid hpl
    cases gk with
    | zero =>
      have hj' : ¬ (j : Int) < t.size := by omega
      have hjt : j = t.size := by omega
      have hall : ∀ c ∈ t.data.toList, plain c := fun c hc => by
        obtain ⟨i, hi, rfl⟩ := List.mem_iff_getElem.1 hc
        exact hpl i hi (by rw [hjt]; exact hi)
      clear hj hpl HPL HJ
      have HALL := Lib.hid hall
      clear hall hjt
      obtain ⟨bl, hbl⟩ : ∃ bl, txt (List.replicate n 32) = bl := ⟨_, rfl⟩
      have hbls : bl.size = n := by rw [← hbl, txt_size, List.length_replicate]
      have hblsi : (bl.size : Int) = (n : Int) := by omega
      have cN : ∀ W, Calls Try.prog 12 #[.int .i64 cw, .int .i64 ch] W fun e w' => e = .returned (.tuple #[VV cw ch 0 0 bl, .int .i64 0]) ∧ Below W.heap.size W w' := fun W => by
        have := new_any cw ch W w1 w2 h1 h2
        unfold newS at this
        rw [HN.out] at this
        rw [← hbl]; exact this
      have hput : ∀ W, Calls Try.prog 14 #[VV cw ch 0 0 bl, .string t] W fun e w' => e = .returned (VSc (putL (newS cw ch) t.data.toList)) ∧ Below W.heap.size W w' := fun W => by
        have := put_any (newS cw ch) t W (newS_ok w1 w2 h1 h2) (by omega)
        rw [← hbl, ← HN.out]; exact this
      have hcwi : (cw : Int) ≤ bl.size := by omega
      have hti : (t.size : Int) ≤ bl.size := by omega
      have hcw0 : ¬ (cw : Int) = 0 := by omega
      have CN := Lib.hid cN
      have HBL := Lib.hid hbl
      clear cN hbl
      by_cases hfull : t.size = n
      · have e1 := fill_all cw ch w1 h1 t.data.toList HALL.out (by rw [HN.out]; exact hfull)
        have hC : txt (t.data.toList.drop cw ++ List.replicate cw 32) = t.extract cw t.size ++ bl.extract 0 cw := by
          apply ba_ext
          rw [ba_app, ba_extract, ba_extract, ← HBL.out]
          have hl : t.data.toList.length = t.size := rfl
          rw [List.take_of_length_le (by simp)]
          simp [txt, show min cw n = cw by omega]
        have c2 : ∀ W, Calls Try.prog 14 #[VV cw ch 0 0 bl, .string t] W fun e w' => e = .returned (VV cw ch 0 (ch - 1 : Nat) (t.extract cw t.size ++ bl.extract 0 cw)) ∧ Below W.heap.size W w' := fun W => by
          have := hput W
          rw [e1] at this
          rw [← hC]; exact this
        obtain ⟨y1, hy1⟩ : ∃ y1, y1 = ch - 1 := ⟨_, rfl⟩
        have hyi : (ch : Int) - 1 = (y1 : Int) := by omega
        rw [← hy1] at c2
        have hbe : ((t.size : Int) == (n : Int)) = true := by simp; omega
        have hcwt : (cw : Int) ≤ t.size := by omega
        have r1 : ∀ W, (Op.stringOp .add (t.extract cw t.size) (bl.extract 0 cw)).run Try.prog W = .ok (.string (t.extract cw t.size ++ bl.extract 0 cw)) W := fun W => run_string_add_sum W _ _ (by rw [ByteArray.size_extract, ByteArray.size_extract]; omega)
        have CP := Lib.hid c2
        clear e1 hC hfull hy1 hput hbls c2
        go_wp2_with fail
        refine (CN.out _).mono ?_
        rintro e w2 ⟨rfl, hb⟩
        have HB2 := Below.thn HBa hb HBas
        have HBs2 := HB2.size
        clear hb
        go_wp2_with fail
        refine (cells_any _ _ _ _ _ _).mono ?_
        rintro e w3 ⟨rfl, hb⟩
        have HB : Below w.heap.size w w3 := Below.thn (by (repeat (first | (with_reducible assumption) | (with_reducible exact Below.refl _ _) | with_reducible apply bl_drewN | with_reducible apply Below.drew | (with_reducible apply bl_alloc; focus (first | (simp; done) | (simp; omega) | omega)) | (with_reducible apply bl_set; focus (first | (simp; done) | (simp; omega) | omega))))) hb
        have HBs := HB.size
        have B8 := Blk.below (b := w2.heap.size) (t := 24) (by (repeat (first | (with_reducible assumption) | (with_reducible apply Blk.new'; (first | (with_reducible rfl) | (simp; done))) | with_reducible apply Blk.alloc | with_reducible apply Blk.set | ((with_reducible apply Blk.set_ne); focus (first | (simp; done) | (simp; omega))) | with_reducible apply Blk.drewN | with_reducible apply Blk.drew))) hb
        have B8c := B8.cell; have B8f := B8.frozen; have B8l := B8.lt
        clear hb
        go_wp2_with fail
        refine (CP.out _).mono ?_
        rintro e w4 ⟨rfl, hb⟩
        have HB : Below w.heap.size w w4 := Below.thn (by (repeat (first | (with_reducible assumption) | (with_reducible exact Below.refl _ _) | with_reducible apply bl_drewN | with_reducible apply Below.drew | (with_reducible apply bl_alloc; focus (first | (simp; done) | (simp; omega) | omega)) | (with_reducible apply bl_set; focus (first | (simp; done) | (simp; omega) | omega))))) hb
        have HBs := HB.size
        have B8 := Blk.below (b := w2.heap.size) (t := 24) (by (repeat (first | (with_reducible assumption) | (with_reducible apply Blk.new'; (first | (with_reducible rfl) | (simp; done))) | with_reducible apply Blk.alloc | with_reducible apply Blk.set | ((with_reducible apply Blk.set_ne); focus (first | (simp; done) | (simp; omega))) | with_reducible apply Blk.drewN | with_reducible apply Blk.drew))) hb
        have B8c := B8.cell; have B8f := B8.frozen; have B8l := B8.lt
        clear hb
        go_wp2_with fail
        refine (cursor_any _ _ _ _ _ _).mono ?_
        rintro e w5 ⟨rfl, hb⟩
        have HB : Below w.heap.size w w5 := Below.thn (by (repeat (first | (with_reducible assumption) | (with_reducible exact Below.refl _ _) | with_reducible apply bl_drewN | with_reducible apply Below.drew | (with_reducible apply bl_alloc; focus (first | (simp; done) | (simp; omega) | omega)) | (with_reducible apply bl_set; focus (first | (simp; done) | (simp; omega) | omega))))) hb
        have HBs := HB.size
        have B8 := Blk.below (b := w2.heap.size) (t := 24) (by (repeat (first | (with_reducible assumption) | (with_reducible apply Blk.new'; (first | (with_reducible rfl) | (simp; done))) | with_reducible apply Blk.alloc | with_reducible apply Blk.set | ((with_reducible apply Blk.set_ne); focus (first | (simp; done) | (simp; omega))) | with_reducible apply Blk.drewN | with_reducible apply Blk.drew))) hb
        have B8c := B8.cell; have B8f := B8.frozen; have B8l := B8.lt
        clear hb
        go_wp2_with fail
        refine wp_abs1 (w2.heap.size) 24 (n := w.heap.size) (w := w) (by (repeat (first | (with_reducible assumption) | (with_reducible exact Below.refl _ _) | with_reducible apply bl_drewN | with_reducible apply Below.drew | (with_reducible apply bl_alloc; focus (first | (simp; done) | (simp; omega) | omega)) | (with_reducible apply bl_set; focus (first | (simp; done) | (simp; omega) | omega))))) (by (repeat (first | (with_reducible assumption) | (with_reducible apply Blk.new'; (first | (with_reducible rfl) | (simp; done))) | with_reducible apply Blk.alloc | with_reducible apply Blk.set | ((with_reducible apply Blk.set_ne); focus (first | (simp; done) | (simp; omega))) | with_reducible apply Blk.drewN | with_reducible apply Blk.drew))) (fun W0 HB B8 => ?_)
        have HBs := HB.size
        have B8c := B8.cell; have B8f := B8.frozen; have B8l := B8.lt
        refine wp_region_gr_tail 20 (by kernel_rfl) (by kernel_rfl) ?_
        simp only [List.take_succ_cons, List.take_zero, List.drop_succ_cons, List.drop_zero]
        repeat (first
          | go_big_quiet_skip
          | ((refine BigFrame.wpQuiet_want rfl (fun K hK => quiet_mk ?_)); apply Exists.intro; refine ⟨fun wq hq => ?_, hK _ ?_⟩
             · have f0 := hq.blk B8; go_simp; (try simp only [↓IntWalk.iteOmega]); (try go_bits)
               first | done | rfl | exact ⟨rfl, rfl⟩ | (go_at_call 13; refine (cells_any _ _ _ _ _ _).mono ?_; rintro e wr ⟨rfl, hbr⟩; exact ⟨rfl, hq.next hbr⟩)
             clear hK K; (try simp only [Act.put, List.setIfInBounds_toArray, List.set_cons_zero, List.set_cons_succ])))
        refine wpQuiet_nil ?_
        intro w6 hw1
        have HB : Below w.heap.size w w6 := Below.thn HB hw1.out HB.size
        have HBs := HB.size
        have B8 := B8.gr hw1; clear B8c B8f B8l; have B8c := B8.cell; have B8f := B8.frozen; have B8l := B8.lt
        clear hw1
        go_wp2_with fail
        go_ret
        exact ⟨rfl, HB⟩
      · have hlt : t.size < n := by omega
        have e1 := fill_new cw ch w1 t.data.toList HALL.out (by rw [HN.out]; exact hlt)
        have hC : txt (t.data.toList ++ List.replicate (n - t.size) 32) = t ++ bl.extract t.size bl.size := by
          apply ba_ext
          rw [ba_app, ba_extract, hbls, ← HBL.out]
          simp [txt]
        obtain ⟨x1, hx1⟩ : ∃ x1, t.size % cw = x1 := ⟨_, rfl⟩
        obtain ⟨y1, hy1⟩ : ∃ y1, t.size / cw = y1 := ⟨_, rfl⟩
        have c2 : ∀ W, Calls Try.prog 14 #[VV cw ch 0 0 bl, .string t] W fun e w' => e = .returned (VV cw ch x1 y1 (t ++ bl.extract t.size bl.size)) ∧ Below W.heap.size W w' := fun W => by
          have := hput W
          rw [e1] at this
          unfold filled at this
          rw [HN.out] at this
          rw [← hC, ← hx1, ← hy1]; exact this
        have hrem : (t.size : Int).tmod (cw : Int) = (x1 : Int) := by rw [← hx1]; rfl
        have hquo : (t.size : Int).tdiv (cw : Int) = (y1 : Int) := by rw [← hy1]; rfl
        have hrem2 : (t.size : Int) % (cw : Int) = (x1 : Int) := by rw [← hx1]; simp
        have hquo2 : (t.size : Int) / (cw : Int) = (y1 : Int) := by rw [← hy1]; simp
        have hx1l : x1 ≤ 1920 := by rw [← hx1]; have := Nat.mod_lt t.size w1; omega
        have hy1l : y1 ≤ 1920 := by rw [← hy1]; have := Nat.div_le_self t.size cw; omega
        have hwx : IntKind.i64.wrap (x1 : Int) = (x1 : Int) := by simp [IntKind.wrap, IntKind.bits, IntKind.signed]; omega
        have hwy : IntKind.i64.wrap (y1 : Int) = (y1 : Int) := by simp [IntKind.wrap, IntKind.bits, IntKind.signed]; omega
        have hbe : ((t.size : Int) == (n : Int)) = false := by simp; omega
        have r1 : ∀ W, (Op.stringOp .add t (bl.extract t.size bl.size)).run Try.prog W = .ok (.string (t ++ bl.extract t.size bl.size)) W := fun W => run_string_add_sum W _ _ (by rw [ByteArray.size_extract]; omega)
        have CP := Lib.hid c2
        clear e1 hC hfull hx1 hy1 hput hbls c2
        go_wp2_with fail
        refine (CN.out _).mono ?_
        rintro e w2 ⟨rfl, hb⟩
        have HB2 := Below.thn HBa hb HBas
        have HBs2 := HB2.size
        clear hb
        go_wp2_with fail
        refine (cells_any _ _ _ _ _ _).mono ?_
        rintro e w3 ⟨rfl, hb⟩
        have HB : Below w.heap.size w w3 := Below.thn (by (repeat (first | (with_reducible assumption) | (with_reducible exact Below.refl _ _) | with_reducible apply bl_drewN | with_reducible apply Below.drew | (with_reducible apply bl_alloc; focus (first | (simp; done) | (simp; omega) | omega)) | (with_reducible apply bl_set; focus (first | (simp; done) | (simp; omega) | omega))))) hb
        have HBs := HB.size
        have B8 := Blk.below (b := w2.heap.size) (t := 24) (by (repeat (first | (with_reducible assumption) | (with_reducible apply Blk.new'; (first | (with_reducible rfl) | (simp; done))) | with_reducible apply Blk.alloc | with_reducible apply Blk.set | ((with_reducible apply Blk.set_ne); focus (first | (simp; done) | (simp; omega))) | with_reducible apply Blk.drewN | with_reducible apply Blk.drew))) hb
        have B8c := B8.cell; have B8f := B8.frozen; have B8l := B8.lt
        clear hb
        go_wp2_with fail
        refine (CP.out _).mono ?_
        rintro e w4 ⟨rfl, hb⟩
        have HB : Below w.heap.size w w4 := Below.thn (by (repeat (first | (with_reducible assumption) | (with_reducible exact Below.refl _ _) | with_reducible apply bl_drewN | with_reducible apply Below.drew | (with_reducible apply bl_alloc; focus (first | (simp; done) | (simp; omega) | omega)) | (with_reducible apply bl_set; focus (first | (simp; done) | (simp; omega) | omega))))) hb
        have HBs := HB.size
        have B8 := Blk.below (b := w2.heap.size) (t := 24) (by (repeat (first | (with_reducible assumption) | (with_reducible apply Blk.new'; (first | (with_reducible rfl) | (simp; done))) | with_reducible apply Blk.alloc | with_reducible apply Blk.set | ((with_reducible apply Blk.set_ne); focus (first | (simp; done) | (simp; omega))) | with_reducible apply Blk.drewN | with_reducible apply Blk.drew))) hb
        have B8c := B8.cell; have B8f := B8.frozen; have B8l := B8.lt
        clear hb
        go_wp2_with fail
        refine (cursor_any _ _ _ _ _ _).mono ?_
        rintro e w5 ⟨rfl, hb⟩
        have HB : Below w.heap.size w w5 := Below.thn (by (repeat (first | (with_reducible assumption) | (with_reducible exact Below.refl _ _) | with_reducible apply bl_drewN | with_reducible apply Below.drew | (with_reducible apply bl_alloc; focus (first | (simp; done) | (simp; omega) | omega)) | (with_reducible apply bl_set; focus (first | (simp; done) | (simp; omega) | omega))))) hb
        have HBs := HB.size
        have B8 := Blk.below (b := w2.heap.size) (t := 24) (by (repeat (first | (with_reducible assumption) | (with_reducible apply Blk.new'; (first | (with_reducible rfl) | (simp; done))) | with_reducible apply Blk.alloc | with_reducible apply Blk.set | ((with_reducible apply Blk.set_ne); focus (first | (simp; done) | (simp; omega))) | with_reducible apply Blk.drewN | with_reducible apply Blk.drew))) hb
        have B8c := B8.cell; have B8f := B8.frozen; have B8l := B8.lt
        clear hb
        have hcw0n : ¬ cw = 0 := by omega
        go_wp2_with fail
        refine wp_abs1 (w2.heap.size) 24 (n := w.heap.size) (w := w) (by (repeat (first | (with_reducible assumption) | (with_reducible exact Below.refl _ _) | with_reducible apply bl_drewN | with_reducible apply Below.drew | (with_reducible apply bl_alloc; focus (first | (simp; done) | (simp; omega) | omega)) | (with_reducible apply bl_set; focus (first | (simp; done) | (simp; omega) | omega))))) (by (repeat (first | (with_reducible assumption) | (with_reducible apply Blk.new'; (first | (with_reducible rfl) | (simp; done))) | with_reducible apply Blk.alloc | with_reducible apply Blk.set | ((with_reducible apply Blk.set_ne); focus (first | (simp; done) | (simp; omega))) | with_reducible apply Blk.drewN | with_reducible apply Blk.drew))) (fun W0 HB B8 => ?_)
        have HBs := HB.size
        have B8c := B8.cell; have B8f := B8.frozen; have B8l := B8.lt
        refine wp_region_gr_tail 25 (by kernel_rfl) (by kernel_rfl) ?_
        simp only [List.take_succ_cons, List.take_zero, List.drop_succ_cons, List.drop_zero]
        repeat (first
          | go_big_quiet_skip
          | ((refine BigFrame.wpQuiet_want rfl (fun K hK => quiet_mk ?_)); apply Exists.intro; refine ⟨fun wq hq => ?_, hK _ ?_⟩
             · have f0 := hq.blk B8; go_simp; (try simp only [↓IntWalk.iteOmega]); (try go_bits)
               first | done | rfl | exact ⟨rfl, rfl⟩ | (go_at_call 13; refine (cells_any _ _ _ _ _ _).mono ?_; rintro e wr ⟨rfl, hbr⟩; exact ⟨rfl, hq.next hbr⟩)
             clear hK K; (try simp only [Act.put, List.setIfInBounds_toArray, List.set_cons_zero, List.set_cons_succ])))
        refine wpQuiet_nil ?_
        intro w6 hw1
        have HB : Below w.heap.size w w6 := Below.thn HB hw1.out HB.size
        have HBs := HB.size
        have B8 := B8.gr hw1; clear B8c B8f B8l; have B8c := B8.cell; have B8f := B8.frozen; have B8l := B8.lt
        clear hw1
        go_wp2_with fail
        go_ret
        exact ⟨rfl, HB⟩
    | succ k =>
      have hj' : (j : Int) < t.size := by omega
      have hjl : j < t.size := by omega
      obtain ⟨c, hc⟩ : ∃ c, t[j] = c := ⟨_, rfl⟩
      have HC := Lib.hid hc
      clear hj hpl
      by_cases hp : plain c
      · have hp1 : ¬ (c.toNat : Int) < 32 := by have := hp.1; omega
        have hp2 : ¬ (126 : Int) < c.toNat := by have := hp.2; omega
        have HP := Lib.hid hp
        clear hp
        go_wp2_with fail
        go_roundg k
        case rel =>
          refine ⟨j + 1, by simp, by have := HJ.out; omega, fun i hi hij => ?_, rfl⟩
          by_cases e : i = j
          · subst e
            have := HC.out
            have h2 : t.data.toList[i] = c := this
            rw [h2]; exact HP.out
          · exact HPL.out i hi (by omega)
        case measure => omega
      · by_cases hp1 : c.toNat < 32
        · have hp1i : (c.toNat : Int) < 32 := by omega
          clear hp
          go_wp2
          go_ret
          exact ⟨rfl, HBa⟩
        · have hp1i : ¬ (c.toNat : Int) < 32 := by omega
          have hp2i : (126 : Int) < c.toNat := by unfold plain at hp; omega
          clear hp
          go_wp2
          go_ret
          exact ⟨rfl, HBa⟩
end Go.Proofs.Ytgdmeaoghhkknaa
