/- SenderTexts: the walk. -/
import Derived.Test.YtpnbmfpdoipioaaTexts6
namespace Go.Proofs.Ytpnbmfpdoipioaa
open Go.RowKit

theorem run_eql_ref (a b c d : Int) (s : ByteArray) (w : World) : (binOp .eql 62 (IV a b c d s) (IV a b c d s)).run Try.prog w = .ok (.bool true) w := by
  simp [go_sem, Program.fieldsOf, Try.underlying62, Try.underlying29, Try.underlying9]
set_option maxHeartbeats 4000000 in
set_option maxRecDepth 20000 in
theorem texts_long (a b c d : Nat) (s t : ByteArray) (w : World) (h : 1000 < s.size ∨ 1000 < t.size) :
    Calls Try.prog 6 #[IV a b c d s, .string t] w fun e w' => e = .returned (.bool true) ∧ Below w.heap.size w w' := by
  have hm : (1000 : Int) < max (s.size : Int) (t.size : Int) := by omega
  go_enter Try.func6, Try.ntmps6
  go_wp2_with fail
  refine (awake15 _).mono ?_
  rintro e w1 ⟨rfl, hb⟩
  have HB := Below.thn (n := w.heap.size) (w := w) (by (repeat (first | (with_reducible assumption) | (with_reducible exact Below.refl _ _) | with_reducible apply bl_drewN | with_reducible apply Below.drew | (with_reducible apply bl_alloc; focus (first | (simp; done) | (simp; omega) | omega)) | (with_reducible apply bl_set; focus (first | (simp; done) | (simp; omega) | omega))))) hb
  have B0 := Blk.below (b := w.heap.size) (t := 38) (by (repeat (first | (with_reducible assumption) | (with_reducible apply Blk.new'; (first | (with_reducible rfl) | (simp; done))) | with_reducible apply Blk.alloc | with_reducible apply Blk.set | ((with_reducible apply Blk.set_ne); focus (first | (simp; done) | (simp; omega))) | with_reducible apply Blk.drewN | with_reducible apply Blk.drew))) hb
  have B0c := B0.cell
  clear hb
  go_wp2
  go_ret
  exact ⟨rfl, HB⟩
set_option maxHeartbeats 8000000 in
set_option maxRecDepth 20000 in
theorem texts_walk (a b c d : Nat) (s t : ByteArray) (w : World) (ha : a ≤ 18446744073709551615) (hb : b ≤ 18446744073709551615) (hc : c ≤ 18446744073709551615) (hd : d ≤ 18446744073709551615) (hs : s.size ≤ 1000) (ht : t.size ≤ 1000) :
    Calls Try.prog 6 #[IV a b c d s, .string t] w fun e w' => e = .returned (.bool true) ∧ Below w.heap.size w w' := by
  have hm : ¬ (1000 : Int) < max (s.size : Int) (t.size : Int) := by omega
  have hst : 32 ≤ (textB a b c d s).size := by rw [textB_size]; omega
  have hst2 : (textB a b c d s).size ≤ 100000 := by rw [textB_size]; omega
  have e0 : pn (textB a b c d s) 0 = a := by unfold pn; rw [pt_text0, getJ_put a ha]
  have e1 : pn (textB a b c d s) 1 = b := by unfold pn; rw [pt_text1, getJ_put b hb]
  have e2 : pn (textB a b c d s) 2 = c := by unfold pn; rw [pt_text2, getJ_put c hc]
  have e3 : pn (textB a b c d s) 3 = d := by unfold pn; rw [pt_text3, getJ_put d hd]
  have e4 : pr (textB a b c d s) = s := pr_text a b c d s
  have p1 := fun W => parse_ok (textB a b c d s) W hst hst2
  rw [e0, e1, e2, e3, e4] at p1
  have P1 := Lib.hid p1
  have hs2 : s.size ≤ 100000 := by omega
  have ht2 : t.size ≤ 100000 := by omega
  have q38 := run_eql_instr
  have q62 := run_eql_ref
  clear e0 e1 e2 e3 e4 p1 hst hst2
  go_enter Try.func6, Try.ntmps6
  go_wp2_with fail
  refine (awake15 _).mono ?_
  rintro e w1 ⟨rfl, hb⟩
  have HB := Below.thn (n := w.heap.size) (w := w) (by (repeat (first | (with_reducible assumption) | (with_reducible exact Below.refl _ _) | with_reducible apply bl_drewN | with_reducible apply Below.drew | (with_reducible apply bl_alloc; focus (first | (simp; done) | (simp; omega) | omega)) | (with_reducible apply bl_set; focus (first | (simp; done) | (simp; omega) | omega))))) hb
  have HBs := HB.size
  have B0 := Blk.below (b := w.heap.size) (t := 38) (by (repeat (first | (with_reducible assumption) | (with_reducible apply Blk.new'; (first | (with_reducible rfl) | (simp; done))) | with_reducible apply Blk.alloc | with_reducible apply Blk.set | ((with_reducible apply Blk.set_ne); focus (first | (simp; done) | (simp; omega))) | with_reducible apply Blk.drewN | with_reducible apply Blk.drew))) hb
  have B0c := B0.cell; have B0l := B0.lt
  clear hb
  go_wp2_with fail
  refine (text_any a b c d s _ (by assumption) (by assumption) (by assumption) (by assumption) hs2).mono ?_
  rintro e w2 ⟨rfl, hb⟩
  have HB : Below w.heap.size w w2 := Below.thn (by (repeat (first | (with_reducible assumption) | (with_reducible exact Below.refl _ _) | with_reducible apply bl_drewN | with_reducible apply Below.drew | (with_reducible apply bl_alloc; focus (first | (simp; done) | (simp; omega) | omega)) | (with_reducible apply bl_set; focus (first | (simp; done) | (simp; omega) | omega))))) hb
  have HBs := HB.size
  have B0 := Blk.below (b := w.heap.size) (t := 38) (by (repeat (first | (with_reducible assumption) | (with_reducible apply Blk.new'; (first | (with_reducible rfl) | (simp; done))) | with_reducible apply Blk.alloc | with_reducible apply Blk.set | ((with_reducible apply Blk.set_ne); focus (first | (simp; done) | (simp; omega))) | with_reducible apply Blk.drewN | with_reducible apply Blk.drew))) hb
  have B0c := B0.cell; have B0f := B0.frozen; have B0l := B0.lt
  clear hb
  go_wp2_with fail
  refine (P1.out _).mono ?_
  rintro e w3 ⟨rfl, hb⟩
  have HB : Below w.heap.size w w3 := Below.thn (by (repeat (first | (with_reducible assumption) | (with_reducible exact Below.refl _ _) | with_reducible apply bl_drewN | with_reducible apply Below.drew | (with_reducible apply bl_alloc; focus (first | (simp; done) | (simp; omega) | omega)) | (with_reducible apply bl_set; focus (first | (simp; done) | (simp; omega) | omega))))) hb
  have HBs := HB.size
  have B0 := Blk.below (b := w.heap.size) (t := 38) (by (repeat (first | (with_reducible assumption) | (with_reducible apply Blk.new'; (first | (with_reducible rfl) | (simp; done))) | with_reducible apply Blk.alloc | with_reducible apply Blk.set | ((with_reducible apply Blk.set_ne); focus (first | (simp; done) | (simp; omega))) | with_reducible apply Blk.drewN | with_reducible apply Blk.drew))) hb
  have B0c := B0.cell; have B0f := B0.frozen; have B0l := B0.lt
  clear hb
  clear P1
  by_cases h32 : 32 ≤ t.size
  · have hz := fun k (hk : 8 * k + 8 ≤ 32) => pn_lt t k (by omega)
    have z0 := hz 0 (by omega); have z1 := hz 1 (by omega); have z2 := hz 2 (by omega); have z3 := hz 3 (by omega)
    have ep := text_parts t h32
    have zs : (pr t).size ≤ 100000 := by unfold pr; rw [ByteArray.size_extract]; omega
    have c1 := fun W => parse_ok t W h32 ht2
    have c2 := fun W => rparse_ok t W h32 ht2
    generalize pn t 0 = n0 at *; generalize pn t 1 = n1 at *; generalize pn t 2 = n2 at *; generalize pn t 3 = n3 at *; generalize pr t = p4 at *
    have hbe : ((textB n0 n1 n2 n3 p4).toList == t.toList) = true := by rw [ep]; simp
    have C1 := Lib.hid c1; have C2 := Lib.hid c2
    clear c1 c2 hz ep
    go_wp2_with fail
    refine (C1.out _).mono ?_
    rintro e w4 ⟨rfl, hb⟩
    have HB : Below w.heap.size w w4 := Below.thn (by (repeat (first | (with_reducible assumption) | (with_reducible exact Below.refl _ _) | with_reducible apply bl_drewN | with_reducible apply Below.drew | (with_reducible apply bl_alloc; focus (first | (simp; done) | (simp; omega) | omega)) | (with_reducible apply bl_set; focus (first | (simp; done) | (simp; omega) | omega))))) hb
    have HBs := HB.size
    have B0 := Blk.below (b := w.heap.size) (t := 38) (by (repeat (first | (with_reducible assumption) | (with_reducible apply Blk.new'; (first | (with_reducible rfl) | (simp; done))) | with_reducible apply Blk.alloc | with_reducible apply Blk.set | ((with_reducible apply Blk.set_ne); focus (first | (simp; done) | (simp; omega))) | with_reducible apply Blk.drewN | with_reducible apply Blk.drew))) hb
    have B0c := B0.cell; have B0f := B0.frozen; have B0l := B0.lt
    have B1 := Blk.below (b := w3.heap.size) (t := 38) (by (repeat (first | (with_reducible assumption) | (with_reducible apply Blk.new'; (first | (with_reducible rfl) | (simp; done))) | with_reducible apply Blk.alloc | with_reducible apply Blk.set | ((with_reducible apply Blk.set_ne); focus (first | (simp; done) | (simp; omega))) | with_reducible apply Blk.drewN | with_reducible apply Blk.drew))) hb
    have B1c := B1.cell; have B1f := B1.frozen; have B1l := B1.lt
    clear hb
    go_wp2_with fail
    refine (C2.out _).mono ?_
    rintro e w5 ⟨rfl, hb⟩
    have HB : Below w.heap.size w w5 := Below.thn (by (repeat (first | (with_reducible assumption) | (with_reducible exact Below.refl _ _) | with_reducible apply bl_drewN | with_reducible apply Below.drew | (with_reducible apply bl_alloc; focus (first | (simp; done) | (simp; omega) | omega)) | (with_reducible apply bl_set; focus (first | (simp; done) | (simp; omega) | omega))))) hb
    have HBs := HB.size
    have B0 := Blk.below (b := w.heap.size) (t := 38) (by (repeat (first | (with_reducible assumption) | (with_reducible apply Blk.new'; (first | (with_reducible rfl) | (simp; done))) | with_reducible apply Blk.alloc | with_reducible apply Blk.set | ((with_reducible apply Blk.set_ne); focus (first | (simp; done) | (simp; omega))) | with_reducible apply Blk.drewN | with_reducible apply Blk.drew))) hb
    have B0c := B0.cell; have B0f := B0.frozen; have B0l := B0.lt
    have B1 := Blk.below (b := w3.heap.size) (t := 38) (by (repeat (first | (with_reducible assumption) | (with_reducible apply Blk.new'; (first | (with_reducible rfl) | (simp; done))) | with_reducible apply Blk.alloc | with_reducible apply Blk.set | ((with_reducible apply Blk.set_ne); focus (first | (simp; done) | (simp; omega))) | with_reducible apply Blk.drewN | with_reducible apply Blk.drew))) hb
    have B1c := B1.cell; have B1f := B1.frozen; have B1l := B1.lt
    have B2 := Blk.below (b := w4.heap.size) (t := 38) (by (repeat (first | (with_reducible assumption) | (with_reducible apply Blk.new'; (first | (with_reducible rfl) | (simp; done))) | with_reducible apply Blk.alloc | with_reducible apply Blk.set | ((with_reducible apply Blk.set_ne); focus (first | (simp; done) | (simp; omega))) | with_reducible apply Blk.drewN | with_reducible apply Blk.drew))) hb
    have B2c := B2.cell; have B2f := B2.frozen; have B2l := B2.lt
    clear hb
    clear C1 C2
    go_wp2_with fail
    refine wp_abs4 (w.heap.size) 38 (w3.heap.size) 38 (w4.heap.size) 38 (w5.heap.size) 62 (n := w.heap.size) (w := w) (by (repeat (first | (with_reducible assumption) | (with_reducible exact Below.refl _ _) | with_reducible apply bl_drewN | with_reducible apply Below.drew | (with_reducible apply bl_alloc; focus (first | (simp; done) | (simp; omega) | omega)) | (with_reducible apply bl_set; focus (first | (simp; done) | (simp; omega) | omega))))) (by (repeat (first | (with_reducible assumption) | (with_reducible apply Blk.new'; (first | (with_reducible rfl) | (simp; done))) | with_reducible apply Blk.alloc | with_reducible apply Blk.set | ((with_reducible apply Blk.set_ne); focus (first | (simp; done) | (simp; omega))) | with_reducible apply Blk.drewN | with_reducible apply Blk.drew))) (by (repeat (first | (with_reducible assumption) | (with_reducible apply Blk.new'; (first | (with_reducible rfl) | (simp; done))) | with_reducible apply Blk.alloc | with_reducible apply Blk.set | ((with_reducible apply Blk.set_ne); focus (first | (simp; done) | (simp; omega))) | with_reducible apply Blk.drewN | with_reducible apply Blk.drew))) (by (repeat (first | (with_reducible assumption) | (with_reducible apply Blk.new'; (first | (with_reducible rfl) | (simp; done))) | with_reducible apply Blk.alloc | with_reducible apply Blk.set | ((with_reducible apply Blk.set_ne); focus (first | (simp; done) | (simp; omega))) | with_reducible apply Blk.drewN | with_reducible apply Blk.drew))) (by (repeat (first | (with_reducible assumption) | (with_reducible apply Blk.new'; (first | (with_reducible rfl) | (simp; done))) | with_reducible apply Blk.alloc | with_reducible apply Blk.set | ((with_reducible apply Blk.set_ne); focus (first | (simp; done) | (simp; omega))) | with_reducible apply Blk.drewN | with_reducible apply Blk.drew))) (fun W0 HB B0 B1 B2 B3 => ?_)
    have HBs := HB.size
    have B0c := B0.cell; have B0f := B0.frozen; have B0l := B0.lt
    have B1c := B1.cell; have B1f := B1.frozen; have B1l := B1.lt
    have B2c := B2.cell; have B2f := B2.frozen; have B2l := B2.lt
    have B3c := B3.cell; have B3f := B3.frozen; have B3l := B3.lt
    refine wp_region_gr_tail 42 (by kernel_rfl) (by kernel_rfl) ?_
    simp only [List.take_succ_cons, List.take_zero, List.drop_succ_cons, List.drop_zero]
    repeat (first
      | go_big_quiet_skip
      | ((refine BigFrame.wpQuiet_want rfl (fun K hK => quiet_mk ?_)); apply Exists.intro; refine ⟨fun wq hq => ?_, hK _ ?_⟩
         · have f0 := hq.blk B0; have f1 := hq.blk B1; have f2 := hq.blk B2; have f3 := hq.blk B3; go_simp; (try simp only [↓IntWalk.iteOmega]); (try go_bits)
           first | done | rfl | exact ⟨rfl, rfl⟩ | (go_at_call 24; refine (text_any _ _ _ _ _ _ (by assumption) (by assumption) (by assumption) (by assumption) (by assumption)).mono ?_; rintro e wr ⟨rfl, hbr⟩; exact ⟨rfl, hq.next hbr⟩) | (go_at_call 26; refine (rtext_any _ _ _ _ _ _ (by assumption) (by assumption) (by assumption) (by assumption) (by assumption)).mono ?_; rintro e wr ⟨rfl, hbr⟩; exact ⟨rfl, hq.next hbr⟩)
         clear hK K; (try simp only [Act.put, List.setIfInBounds_toArray, List.set_cons_zero, List.set_cons_succ])))
    refine wpQuiet_nil ?_
    intro w1 hw1
    have HB : Below w.heap.size w w1 := Below.thn HB hw1.out HB.size
    have HBs := HB.size
    have B0 := B0.gr hw1; clear B0c B0f B0l; have B0c := B0.cell; have B0f := B0.frozen; have B0l := B0.lt
    have B1 := B1.gr hw1; clear B1c B1f B1l; have B1c := B1.cell; have B1f := B1.frozen; have B1l := B1.lt
    have B2 := B2.gr hw1; clear B2c B2f B2l; have B2c := B2.cell; have B2f := B2.frozen; have B2l := B2.lt
    have B3 := B3.gr hw1; clear B3c B3f B3l; have B3c := B3.cell; have B3f := B3.frozen; have B3l := B3.lt
    clear hw1
    go_wp2_with fail
    go_ret
    exact ⟨rfl, by (repeat (first | (with_reducible assumption) | (with_reducible exact Below.refl _ _) | with_reducible apply bl_drewN | with_reducible apply Below.drew | (with_reducible apply bl_alloc; focus (first | (simp; done) | (simp; omega) | omega)) | (with_reducible apply bl_set; focus (first | (simp; done) | (simp; omega) | omega))))⟩
  · have c1 := fun W => parse_none t W (by omega)
    have c2 := fun W => rparse_none t W (by omega)
    have C1 := Lib.hid c1; have C2 := Lib.hid c2
    clear c1 c2
    go_wp2_with fail
    refine (C1.out _).mono ?_
    rintro e w4 ⟨rfl, hb⟩
    have HB : Below w.heap.size w w4 := Below.thn (by (repeat (first | (with_reducible assumption) | (with_reducible exact Below.refl _ _) | with_reducible apply bl_drewN | with_reducible apply Below.drew | (with_reducible apply bl_alloc; focus (first | (simp; done) | (simp; omega) | omega)) | (with_reducible apply bl_set; focus (first | (simp; done) | (simp; omega) | omega))))) hb
    have HBs := HB.size
    have B0 := Blk.below (b := w.heap.size) (t := 38) (by (repeat (first | (with_reducible assumption) | (with_reducible apply Blk.new'; (first | (with_reducible rfl) | (simp; done))) | with_reducible apply Blk.alloc | with_reducible apply Blk.set | ((with_reducible apply Blk.set_ne); focus (first | (simp; done) | (simp; omega))) | with_reducible apply Blk.drewN | with_reducible apply Blk.drew))) hb
    have B0c := B0.cell; have B0f := B0.frozen; have B0l := B0.lt
    have B1 := Blk.below (b := w3.heap.size) (t := 38) (by (repeat (first | (with_reducible assumption) | (with_reducible apply Blk.new'; (first | (with_reducible rfl) | (simp; done))) | with_reducible apply Blk.alloc | with_reducible apply Blk.set | ((with_reducible apply Blk.set_ne); focus (first | (simp; done) | (simp; omega))) | with_reducible apply Blk.drewN | with_reducible apply Blk.drew))) hb
    have B1c := B1.cell; have B1f := B1.frozen; have B1l := B1.lt
    clear hb
    go_wp2_with fail
    refine (C2.out _).mono ?_
    rintro e w5 ⟨rfl, hb⟩
    have HB : Below w.heap.size w w5 := Below.thn (by (repeat (first | (with_reducible assumption) | (with_reducible exact Below.refl _ _) | with_reducible apply bl_drewN | with_reducible apply Below.drew | (with_reducible apply bl_alloc; focus (first | (simp; done) | (simp; omega) | omega)) | (with_reducible apply bl_set; focus (first | (simp; done) | (simp; omega) | omega))))) hb
    have HBs := HB.size
    have B0 := Blk.below (b := w.heap.size) (t := 38) (by (repeat (first | (with_reducible assumption) | (with_reducible apply Blk.new'; (first | (with_reducible rfl) | (simp; done))) | with_reducible apply Blk.alloc | with_reducible apply Blk.set | ((with_reducible apply Blk.set_ne); focus (first | (simp; done) | (simp; omega))) | with_reducible apply Blk.drewN | with_reducible apply Blk.drew))) hb
    have B0c := B0.cell; have B0f := B0.frozen; have B0l := B0.lt
    have B1 := Blk.below (b := w3.heap.size) (t := 38) (by (repeat (first | (with_reducible assumption) | (with_reducible apply Blk.new'; (first | (with_reducible rfl) | (simp; done))) | with_reducible apply Blk.alloc | with_reducible apply Blk.set | ((with_reducible apply Blk.set_ne); focus (first | (simp; done) | (simp; omega))) | with_reducible apply Blk.drewN | with_reducible apply Blk.drew))) hb
    have B1c := B1.cell; have B1f := B1.frozen; have B1l := B1.lt
    have B2 := Blk.below (b := w4.heap.size) (t := 38) (by (repeat (first | (with_reducible assumption) | (with_reducible apply Blk.new'; (first | (with_reducible rfl) | (simp; done))) | with_reducible apply Blk.alloc | with_reducible apply Blk.set | ((with_reducible apply Blk.set_ne); focus (first | (simp; done) | (simp; omega))) | with_reducible apply Blk.drewN | with_reducible apply Blk.drew))) hb
    have B2c := B2.cell; have B2f := B2.frozen; have B2l := B2.lt
    clear hb
    clear C1 C2
    go_wp2_with fail
    refine wp_abs4 (w.heap.size) 38 (w3.heap.size) 38 (w4.heap.size) 38 (w5.heap.size) 62 (n := w.heap.size) (w := w) (by (repeat (first | (with_reducible assumption) | (with_reducible exact Below.refl _ _) | with_reducible apply bl_drewN | with_reducible apply Below.drew | (with_reducible apply bl_alloc; focus (first | (simp; done) | (simp; omega) | omega)) | (with_reducible apply bl_set; focus (first | (simp; done) | (simp; omega) | omega))))) (by (repeat (first | (with_reducible assumption) | (with_reducible apply Blk.new'; (first | (with_reducible rfl) | (simp; done))) | with_reducible apply Blk.alloc | with_reducible apply Blk.set | ((with_reducible apply Blk.set_ne); focus (first | (simp; done) | (simp; omega))) | with_reducible apply Blk.drewN | with_reducible apply Blk.drew))) (by (repeat (first | (with_reducible assumption) | (with_reducible apply Blk.new'; (first | (with_reducible rfl) | (simp; done))) | with_reducible apply Blk.alloc | with_reducible apply Blk.set | ((with_reducible apply Blk.set_ne); focus (first | (simp; done) | (simp; omega))) | with_reducible apply Blk.drewN | with_reducible apply Blk.drew))) (by (repeat (first | (with_reducible assumption) | (with_reducible apply Blk.new'; (first | (with_reducible rfl) | (simp; done))) | with_reducible apply Blk.alloc | with_reducible apply Blk.set | ((with_reducible apply Blk.set_ne); focus (first | (simp; done) | (simp; omega))) | with_reducible apply Blk.drewN | with_reducible apply Blk.drew))) (by (repeat (first | (with_reducible assumption) | (with_reducible apply Blk.new'; (first | (with_reducible rfl) | (simp; done))) | with_reducible apply Blk.alloc | with_reducible apply Blk.set | ((with_reducible apply Blk.set_ne); focus (first | (simp; done) | (simp; omega))) | with_reducible apply Blk.drewN | with_reducible apply Blk.drew))) (fun W0 HB B0 B1 B2 B3 => ?_)
    have HBs := HB.size
    have B0c := B0.cell; have B0f := B0.frozen; have B0l := B0.lt
    have B1c := B1.cell; have B1f := B1.frozen; have B1l := B1.lt
    have B2c := B2.cell; have B2f := B2.frozen; have B2l := B2.lt
    have B3c := B3.cell; have B3f := B3.frozen; have B3l := B3.lt
    refine wp_region_gr_tail 42 (by kernel_rfl) (by kernel_rfl) ?_
    simp only [List.take_succ_cons, List.take_zero, List.drop_succ_cons, List.drop_zero]
    repeat (first
      | go_big_quiet_skip
      | ((refine BigFrame.wpQuiet_want rfl (fun K hK => quiet_mk ?_)); apply Exists.intro; refine ⟨fun wq hq => ?_, hK _ ?_⟩
         · have f0 := hq.blk B0; have f1 := hq.blk B1; have f2 := hq.blk B2; have f3 := hq.blk B3; go_simp; (try simp only [↓IntWalk.iteOmega]); (try go_bits)
           first | done | rfl | exact ⟨rfl, rfl⟩ | (go_at_call 24; refine (text_any _ _ _ _ _ _ (by assumption) (by assumption) (by assumption) (by assumption) (by assumption)).mono ?_; rintro e wr ⟨rfl, hbr⟩; exact ⟨rfl, hq.next hbr⟩) | (go_at_call 26; refine (rtext_any _ _ _ _ _ _ (by assumption) (by assumption) (by assumption) (by assumption) (by assumption)).mono ?_; rintro e wr ⟨rfl, hbr⟩; exact ⟨rfl, hq.next hbr⟩)
         clear hK K; (try simp only [Act.put, List.setIfInBounds_toArray, List.set_cons_zero, List.set_cons_succ])))
    refine wpQuiet_nil ?_
    intro w1 hw1
    have HB : Below w.heap.size w w1 := Below.thn HB hw1.out HB.size
    have HBs := HB.size
    have B0 := B0.gr hw1; clear B0c B0f B0l; have B0c := B0.cell; have B0f := B0.frozen; have B0l := B0.lt
    have B1 := B1.gr hw1; clear B1c B1f B1l; have B1c := B1.cell; have B1f := B1.frozen; have B1l := B1.lt
    have B2 := B2.gr hw1; clear B2c B2f B2l; have B2c := B2.cell; have B2f := B2.frozen; have B2l := B2.lt
    have B3 := B3.gr hw1; clear B3c B3f B3l; have B3c := B3.cell; have B3f := B3.frozen; have B3l := B3.lt
    clear hw1
    go_wp2_with fail
    go_ret
    exact ⟨rfl, by (repeat (first | (with_reducible assumption) | (with_reducible exact Below.refl _ _) | with_reducible apply bl_drewN | with_reducible apply Below.drew | (with_reducible apply bl_alloc; focus (first | (simp; done) | (simp; omega) | omega)) | (with_reducible apply bl_set; focus (first | (simp; done) | (simp; omega) | omega))))⟩
end Go.Proofs.Ytpnbmfpdoipioaa
