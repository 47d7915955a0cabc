/- Quiet, Due. -/
import Derived.Test.YtpnbmfpdoipioaaSnd1
namespace Go.Proofs.Ytpnbmfpdoipioaa
open Go.RowKit

def quietB (l : List SSt) (now : ByteArray) : Bool := decide (l.length = 1) && decide (now = (l.getD 0 default).val)
set_option maxHeartbeats 1000000 in
set_option maxRecDepth 20000 in
theorem quiet_any (b off cap last : Nat) (l : List SSt) (now : ByteArray) (w : World) (L : ListAt w b off l) :
    Calls Try.prog 15 #[SV (.slice (some ⟨b, off, none⟩) l.length cap) now last] w fun e w' => e = .returned (.bool (quietB l now)) ∧ Below w.heap.size w w' := by
  unfold quietB
  have hp := L.pos
  have hbl := L.lt
  have hp1 : (0 : Int) < l.length := by omega
  by_cases h1 : l.length = 1
  · obtain ⟨x, hx⟩ : ∃ x, l.getD 0 default = x := ⟨_, rfl⟩
    obtain ⟨d, hd⟩ : ∃ d, decide (now = x.val) = d := ⟨_, rfl⟩
    rw [hx, hd]
    have HD := Lib.hid hd
    have hc := L.c2 0 hp.1
    rw [hx] at hc
    simp only [Nat.zero_mul, Nat.add_zero] at hc
    obtain ⟨m, hm⟩ : ∃ m, l.length = m := ⟨_, rfl⟩
    rw [hm] at h1
    rw [hm, h1]
    simp only [decide_true, Bool.true_and]
    clear hd hx L hp hp1 hm h1
    go_enter Try.func15, Try.ntmps15
    go_wp2_with fail
    have hcW := (Below.cell (p := ⟨b, off + 2, none⟩) (Below.alloc (Below.refl w.heap.size w) (Nat.le_refl _) (.cells #[fDiff, fSame, .slice (some ⟨b, off, none⟩) 1 cap, .string now, .int .u64 last] 31)) hbl).trans hc
    have B0 := Blk.new w #[fDiff, fSame, .slice (some ⟨b, off, none⟩) 1 cap, .string now, .int .u64 last] 31
    have HB := Below.alloc (Below.refl w.heap.size w) (Nat.le_refl _) (.cells #[fDiff, fSame, .slice (some ⟨b, off, none⟩) 1 cap, .string now, .int .u64 last] 31)
    have HBs := HB.size
    generalize w.alloc (.cells #[fDiff, fSame, .slice (some ⟨b, off, none⟩) 1 cap, .string now, .int .u64 last] 31) = W0 at *
    refine wp_region_gr_tail 15 (by kernel_rfl) (by kernel_rfl) ?_
    simp only [List.take_succ_cons, List.take_zero, List.drop_succ_cons, List.drop_zero]
    repeat (first
      | go_big_quiet_skip
      | ((refine BigFrame.wpQuiet_want rfl (fun K hK => quiet_mk ?_)); apply Exists.intro; refine ⟨fun wq hq => ?_, hK _ ?_⟩
         · have f0 := hq.blk B0; have f1 := hq.cell hcW; go_simp; (try simp only [↓IntWalk.iteOmega]); (try go_bits)
           first | done | rfl | exact ⟨rfl, rfl⟩
         clear hK K; (try simp only [Act.put, List.setIfInBounds_toArray, List.set_cons_zero, List.set_cons_succ])))
    refine wpQuiet_nil ?_
    intro w1 hw1
    have HB1 := Below.thn HB hw1.out HBs
    have HBs1 := HB1.size
    go_wp2_with fail
    refine (same_any _ _ _).mono ?_
    rintro e w2 ⟨rfl, hb⟩
    rw [HD.out]
    go_wp2
    go_ret
    exact ⟨rfl, Below.thn HB1 hb HBs1⟩
  · have h1' : ((l.length : Int) == 1) = false := by simp; omega
    go_enter Try.func15, Try.ntmps15
    go_wp2_with fail
    have B0 := Blk.new w #[fDiff, fSame, .slice (some ⟨b, off, none⟩) l.length cap, .string now, .int .u64 last] 31
    have HB := Below.alloc (Below.refl w.heap.size w) (Nat.le_refl _) (.cells #[fDiff, fSame, .slice (some ⟨b, off, none⟩) l.length cap, .string now, .int .u64 last] 31)
    have HBs := HB.size
    generalize w.alloc (.cells #[fDiff, fSame, .slice (some ⟨b, off, none⟩) l.length cap, .string now, .int .u64 last] 31) = W0 at *
    refine wp_region_gr_tail 15 (by kernel_rfl) (by kernel_rfl) ?_
    simp only [List.take_succ_cons, List.take_zero, List.drop_succ_cons, List.drop_zero]
    repeat (first
      | go_big_quiet_skip
      | ((refine BigFrame.wpQuiet_want rfl (fun K hK => quiet_mk ?_)); apply Exists.intro; refine ⟨fun wq hq => ?_, hK _ ?_⟩
         · have f0 := hq.blk B0; go_simp; (try simp only [↓IntWalk.iteOmega]); (try go_bits)
           first | done | rfl | exact ⟨rfl, rfl⟩
         clear hK K; (try simp only [Act.put, List.setIfInBounds_toArray, List.set_cons_zero, List.set_cons_succ])))
    refine wpQuiet_nil ?_
    intro w1 hw1
    have HB1 := Below.thn HB hw1.out HBs
    go_wp2
    go_ret
    exact ⟨by simp [h1], HB1⟩

def dueU (l : List SSt) (now : ByteArray) (last wait beat : Nat) : Nat :=
  if freshB l now = true then 0 else if 1 < l.length then min (addU last beat) (addU (topS l).sent wait) else addU last beat
theorem addU_le (a b : Nat) (ha : a ≤ 18446744073709551615) : addU a b ≤ 18446744073709551615 := by unfold addU; split <;> omega
theorem top_small {w : World} {b off : Nat} {l : List SSt} (L : ListAt w b off l) : (topS l).num ≤ 1000000 ∧ (topS l).sent ≤ 18446744073709551615 ∧ (topS l).val.size ≤ 1000 := L.small _ (by have := L.pos; omega)
set_option maxHeartbeats 1000000 in
set_option maxRecDepth 20000 in
theorem due_any (b off cap last wait beat : Nat) (l : List SSt) (now : ByteArray) (w : World) (L : ListAt w b off l) (hl : last ≤ 18446744073709551615) (hw : wait ≤ 18446744073709551615) (hbt : beat ≤ 18446744073709551615) :
    Calls Try.prog 16 #[SV (.slice (some ⟨b, off, none⟩) l.length cap) now last, .int .u64 wait, .int .u64 beat] w fun e w' => e = .returned (.int .u64 (dueU l now last wait beat : Nat)) ∧ Below w.heap.size w w' := by
  have hp := L.pos
  have hts := top_small L
  have ha1 := addU_le last beat hl
  have ha2 := addU_le (topS l).sent wait hts.2.1
  obtain ⟨r, hr⟩ : ∃ r, dueU l now last wait beat = r := ⟨_, rfl⟩
  rw [hr]
  have HR := Lib.hid hr
  clear hr
  go_enter Try.func16, Try.ntmps16
  go_wp2_with fail
  refine (add_any last beat _ hl hbt).mono ?_
  rintro e w1 ⟨rfl, hb⟩
  have HB : Below w.heap.size w w1 := Below.thn (by (repeat (first | (with_reducible assumption) | (with_reducible exact Below.refl _ _) | with_reducible apply bl_drewN | with_reducible apply Below.drew | (with_reducible apply bl_alloc; focus (first | (simp; done) | (simp; omega) | omega)) | (with_reducible apply bl_set; focus (first | (simp; done) | (simp; omega) | omega))))) hb
  have HBs := HB.size
  have B0 := Blk.below (b := w.heap.size) (t := 31) (by (repeat (first | (with_reducible assumption) | (with_reducible apply Blk.new'; (first | (with_reducible rfl) | (simp; done))) | with_reducible apply Blk.alloc | with_reducible apply Blk.set | ((with_reducible apply Blk.set_ne); focus (first | (simp; done) | (simp; omega))) | with_reducible apply Blk.drewN | with_reducible apply Blk.drew))) hb
  have B0c := B0.cell; have B0f := B0.frozen; have B0l := B0.lt
  clear hb
  have L1 := L.below HB
  go_wp2_with fail
  refine (fresh_any b off cap last l now _ L1).mono ?_
  rintro e w2 ⟨rfl, hb⟩
  have HB2 := Below.thn HB hb HBs
  have HBs2 := HB2.size
  have L2 := L1.below hb
  have B2 := B0.below hb
  have B2l := B2.lt
  clear B0 B0c B0f B0l hb L1 HB HBs
  have B2c := B2.cell; have B2f := B2.frozen
  obtain ⟨d, hd⟩ : ∃ d, freshB l now = d := ⟨_, rfl⟩
  rw [hd]
  have HD := Lib.hid hd
  clear hd
  cases d with
  | true =>
    have hr : 0 = r := by have := HR.out; unfold dueU at this; rwa [if_pos HD.out] at this
    subst hr
    go_wp2
    go_ret
    exact ⟨rfl, HB2⟩
  | false =>
    by_cases h1 : 1 < l.length
    · have h1' : (1 : Int) < l.length := by omega
      have hr : min (addU last beat) (addU (topS l).sent wait) = r := by have := HR.out; unfold dueU at this; rwa [if_neg (by rw [HD.out]; simp), if_pos h1] at this
      clear h1
      have hf1 := fun W => run_fld1 ((topS l).num : Int) ((topS l).sent : Int) (topS l).val W
      go_wp2_with fail
      refine (newest_any b off cap last l now _ L2).mono ?_
      rintro e w3 ⟨rfl, hb⟩
      have HB3 := Below.thn HB2 hb HBs2
      have HBs3 := HB3.size
      clear hb
      go_wp2_with fail
      refine (add_any (topS l).sent wait _ hts.2.1 hw).mono ?_
      rintro e w4 ⟨rfl, hb⟩
      have HB4 := Below.thn HB3 hb HBs3
      have HR2 := Lib.hid hr
      clear hr
      go_wp2
      all_goals (go_ret; exact ⟨ret_int (by have := HR2.out; omega), HB4⟩)
    · have h1' : ¬ (1 : Int) < l.length := by omega
      have hr : addU last beat = r := by have := HR.out; unfold dueU at this; rwa [if_neg (by rw [HD.out]; simp), if_neg h1] at this
      subst hr
      go_wp2
      go_ret
      exact ⟨rfl, HB2⟩
end Go.Proofs.Ytpnbmfpdoipioaa
