/- Package delta: Do. -/
import Derived.Test.YtgdmeaoghhkknaaDel4
namespace Go.Proofs.Ytgdmeaoghhkknaa
open Go.RowKit

theorem pv_form (o : Option Scr) : ∃ a b c d t z, pv o = .tuple #[VV a b c d t, .int .i64 z] := by
  cases o with
  | none => exact ⟨_, _, _, _, _, _, rfl⟩
  | some s => exact ⟨_, _, _, _, _, _, rfl⟩
theorem cut_yes (d : ByteArray) (c : UInt8) (r : List UInt8) (h : d.data.toList = c :: r) (W : World) :
    Calls Try.prog 44 #[.string d, .string ⟨#[c]⟩] W fun e w' => e = .returned (.tuple #[.string ⟨r.toArray⟩, .bool true]) ∧ Below W.heap.size W w' := by
  refine (Try.strings_CutPrefix d ⟨#[c]⟩ W).mono ?_
  rintro e w' ⟨rfl, rfl⟩
  have e1 : Lib.hasPrefix d.data.toList [c] = true := by rw [pre_one, h]; simp
  have e2 : Lib.trimPrefix d.data.toList [c] = r := by unfold Lib.trimPrefix; rw [e1, h]; rfl
  refine ⟨?_, Below.refl _ _⟩
  show Ending.returned (.tuple #[.string ⟨(Lib.trimPrefix d.data.toList [c]).toArray⟩, .bool (Lib.hasPrefix d.data.toList [c])]) = _
  rw [e1, e2]
theorem cut_no (d : ByteArray) (c : UInt8) (h : d.data.toList.head? ≠ some c) (W : World) :
    Calls Try.prog 44 #[.string d, .string ⟨#[c]⟩] W fun e w' => e = .returned (.tuple #[.string d, .bool false]) ∧ Below W.heap.size W w' := by
  refine (Try.strings_CutPrefix d ⟨#[c]⟩ W).mono ?_
  rintro e w' ⟨rfl, rfl⟩
  have e1 : Lib.hasPrefix d.data.toList [c] = false := by rw [pre_one]; exact decide_eq_false h
  have e2 : Lib.trimPrefix d.data.toList [c] = d.data.toList := by unfold Lib.trimPrefix; rw [e1]; rfl
  refine ⟨?_, Below.refl _ _⟩
  show Ending.returned (.tuple #[.string ⟨(Lib.trimPrefix d.data.toList [c]).toArray⟩, .bool (Lib.hasPrefix d.data.toList [c])]) = _
  rw [e1, e2, txt_list]
theorem has_is (d : ByteArray) (c : UInt8) (b : Bool) (h : decide (d.data.toList.head? = some c) = b) (W : World) :
    Calls Try.prog 46 #[.string d, .string ⟨#[c]⟩] W fun e w' => e = .returned (.bool b) ∧ Below W.heap.size W w' := by
  refine (Try.strings_HasPrefix d ⟨#[c]⟩ W).mono ?_
  rintro e w' ⟨rfl, rfl⟩
  refine ⟨?_, Below.refl _ _⟩
  show Ending.returned (.bool (Lib.hasPrefix d.data.toList [c])) = _
  rw [pre_one, h]

set_option maxHeartbeats 4000000 in
set_option maxRecDepth 20000 in
theorem do_whole (sw sh sx sy a b c e' z : Int) (st d tl f : ByteArray) (w : World) (hC : ∀ W, Calls Try.prog 44 #[.string d, .string ⟨#[102]⟩] W fun e w' => e = .returned (.tuple #[.string tl, .bool true]) ∧ Below W.heap.size W w')
    (hK : ∀ W, Calls Try.prog 45 #[VV sw sh sx sy st, .string d, .string tl] W fun e w' => e = .returned (.tuple #[VV a b c e' f, .int .i64 z]) ∧ Below W.heap.size W w') :
    Calls Try.prog 28 #[VV sw sh sx sy st, .string d] w fun e w' => e = .returned (.tuple #[VV a b c e' f, .int .i64 z]) ∧ Below w.heap.size w w' := by
  go_enter Try.func28, Try.ntmps28
  go_wp2_with fail
  refine (hC _).mono ?_
  rintro e wa ⟨rfl, hb⟩
  have HB : Below w.heap.size w wa := Below.thn (by (repeat (first | (with_reducible assumption) | (with_reducible exact Below.refl _ _) | with_reducible apply bl_drewN | with_reducible apply Below.drew | (with_reducible apply bl_alloc; focus (first | (simp; done) | (simp; omega) | omega)) | (with_reducible apply bl_set; focus (first | (simp; done) | (simp; omega) | omega))))) hb
  have B1 := Blk.below (b := w.heap.size) (t := 24) (by (repeat (first | (with_reducible assumption) | (with_reducible apply Blk.new'; (first | (with_reducible rfl) | (simp; done))) | with_reducible apply Blk.alloc | with_reducible apply Blk.set | ((with_reducible apply Blk.set_ne); focus (first | (simp; done) | (simp; omega))) | with_reducible apply Blk.drewN | with_reducible apply Blk.drew))) hb
  have B2 := Blk.below (b := w.heap.size + 1) (t := 24) (by (repeat (first | (with_reducible assumption) | (with_reducible apply Blk.new'; (first | (with_reducible rfl) | (simp; done))) | with_reducible apply Blk.alloc | with_reducible apply Blk.set | ((with_reducible apply Blk.set_ne); focus (first | (simp; done) | (simp; omega))) | with_reducible apply Blk.drewN | with_reducible apply Blk.drew))) hb
  have HBs := HB.size
  have B1c := B1.cell; have B1l := B1.lt
  clear hb
  go_wp2_with fail
  refine (hK _).mono ?_
  rintro e wb ⟨rfl, hb⟩
  have HB9 : Below w.heap.size w wb := Below.thn HB hb
  have B29 := B2.below hb
  have HB9s := HB9.size
  have B29c := B29.cell; have B29l := B29.lt; have B29f := B29.frozen
  clear hb HB HBs B1 B2 B1c B1l
  go_wp2_with fail
  refine bodyPost_ret (v := .tuple #[VV a b c e' f, .int .i64 z]) ?_ rfl ⟨rfl, ?_⟩
  · first | (simp [results, Try.results28, go_sem, B29c]; done) | simp [results, Try.results28, go_sem, B29c, B29l]
  · repeat (first | (with_reducible assumption) | (with_reducible exact Below.refl _ _) | with_reducible apply bl_drewN | with_reducible apply Below.drew | (with_reducible apply bl_alloc; focus (first | (simp; done) | (simp; omega) | omega)) | (with_reducible apply bl_set; focus (first | (simp; done) | (simp; omega) | omega)))
set_option maxHeartbeats 4000000 in
set_option maxRecDepth 20000 in
theorem do_short (sw sh sx sy : Int) (st d : ByteArray) (w : World) (hC : d.data.toList.head? ≠ some 102) (h : d.size < 3 ∨ d.data.toList.head? ≠ some 100) :
    Calls Try.prog 28 #[VV sw sh sx sy st, .string d] w fun e w' => e = .returned (.tuple #[VV 0 0 0 0 ⟨#[]⟩, .int .i64 4]) ∧ Below w.heap.size w w' := by
  have CUT := Lib.hid (cut_no d 102 hC)
  clear hC
  by_cases h3 : d.size < 3
  · have h3i : (d.size : Int) < 3 := by omega
    clear h
    go_enter Try.func28, Try.ntmps28
    go_wp2_with fail
    refine (CUT.out _).mono ?_
    rintro e wa ⟨rfl, hb⟩
    have HB : Below w.heap.size w wa := Below.thn (by (repeat (first | (with_reducible assumption) | (with_reducible exact Below.refl _ _) | with_reducible apply bl_drewN | with_reducible apply Below.drew | (with_reducible apply bl_alloc; focus (first | (simp; done) | (simp; omega) | omega)) | (with_reducible apply bl_set; focus (first | (simp; done) | (simp; omega) | omega))))) hb
    have B1 := Blk.below (b := w.heap.size) (t := 24) (by (repeat (first | (with_reducible assumption) | (with_reducible apply Blk.new'; (first | (with_reducible rfl) | (simp; done))) | with_reducible apply Blk.alloc | with_reducible apply Blk.set | ((with_reducible apply Blk.set_ne); focus (first | (simp; done) | (simp; omega))) | with_reducible apply Blk.drewN | with_reducible apply Blk.drew))) hb
    have B2 := Blk.below (b := w.heap.size + 1) (t := 24) (by (repeat (first | (with_reducible assumption) | (with_reducible apply Blk.new'; (first | (with_reducible rfl) | (simp; done))) | with_reducible apply Blk.alloc | with_reducible apply Blk.set | ((with_reducible apply Blk.set_ne); focus (first | (simp; done) | (simp; omega))) | with_reducible apply Blk.drewN | with_reducible apply Blk.drew))) hb
    have HBs := HB.size
    have B2c := B2.cell; have B2l := B2.lt; have B2f := B2.frozen
    clear hb
    go_wp2_with fail
    refine bodyPost_ret (v := .tuple #[VV 0 0 0 0 ⟨#[]⟩, .int .i64 4]) ?_ rfl ⟨rfl, ?_⟩
    · first | (simp [results, Try.results28, go_sem, B2c]; done) | simp [results, Try.results28, go_sem, B2c, B2l]
    · repeat (first | (with_reducible assumption) | (with_reducible exact Below.refl _ _) | with_reducible apply bl_drewN | with_reducible apply Below.drew | (with_reducible apply bl_alloc; focus (first | (simp; done) | (simp; omega) | omega)) | (with_reducible apply bl_set; focus (first | (simp; done) | (simp; omega) | omega)))
  · have h3i : ¬ (d.size : Int) < 3 := by omega
    have HAS := Lib.hid (has_is d 100 false (decide_eq_false (by rcases h with h | h; exact absurd h h3; exact h)))
    clear h
    go_enter Try.func28, Try.ntmps28
    go_wp2_with fail
    refine (CUT.out _).mono ?_
    rintro e wa ⟨rfl, hb⟩
    have HB : Below w.heap.size w wa := Below.thn (by (repeat (first | (with_reducible assumption) | (with_reducible exact Below.refl _ _) | with_reducible apply bl_drewN | with_reducible apply Below.drew | (with_reducible apply bl_alloc; focus (first | (simp; done) | (simp; omega) | omega)) | (with_reducible apply bl_set; focus (first | (simp; done) | (simp; omega) | omega))))) hb
    have B1 := Blk.below (b := w.heap.size) (t := 24) (by (repeat (first | (with_reducible assumption) | (with_reducible apply Blk.new'; (first | (with_reducible rfl) | (simp; done))) | with_reducible apply Blk.alloc | with_reducible apply Blk.set | ((with_reducible apply Blk.set_ne); focus (first | (simp; done) | (simp; omega))) | with_reducible apply Blk.drewN | with_reducible apply Blk.drew))) hb
    have B2 := Blk.below (b := w.heap.size + 1) (t := 24) (by (repeat (first | (with_reducible assumption) | (with_reducible apply Blk.new'; (first | (with_reducible rfl) | (simp; done))) | with_reducible apply Blk.alloc | with_reducible apply Blk.set | ((with_reducible apply Blk.set_ne); focus (first | (simp; done) | (simp; omega))) | with_reducible apply Blk.drewN | with_reducible apply Blk.drew))) hb
    have HBs := HB.size
    have B2c := B2.cell; have B2l := B2.lt; have B2f := B2.frozen
    clear hb
    go_wp2_with fail
    refine (HAS.out _).mono ?_
    rintro e wb ⟨rfl, hb⟩
    have HB9 : Below w.heap.size w wb := Below.thn HB hb
    have B29 := B2.below hb
    have HB9s := HB9.size
    have B29c := B29.cell; have B29l := B29.lt; have B29f := B29.frozen
    clear hb HB HBs B1 B2 B2c B2l B2f
    go_wp2_with fail
    refine bodyPost_ret (v := .tuple #[VV 0 0 0 0 ⟨#[]⟩, .int .i64 4]) ?_ rfl ⟨rfl, ?_⟩
    · first | (simp [results, Try.results28, go_sem, B29c]; done) | simp [results, Try.results28, go_sem, B29c, B29l]
    · repeat (first | (with_reducible assumption) | (with_reducible exact Below.refl _ _) | with_reducible apply bl_drewN | with_reducible apply Below.drew | (with_reducible apply bl_alloc; focus (first | (simp; done) | (simp; omega) | omega)) | (with_reducible apply bl_set; focus (first | (simp; done) | (simp; omega) | omega)))
end Go.Proofs.Ytgdmeaoghhkknaa
