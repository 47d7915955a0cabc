/- KeysFollow: the walk. -/
import Derived.Test.YtenjijbjdfbkpaaKeys4
import Derived.Test.YtenjijbjdfbkpaaStr
namespace Go.Proofs.Ytenjijbjdfbkpaa
open Go.RowKit

/-- Of two keys a and b: as far on; b's are the end of a's. -/
def KInv (k fa : Nat) (ta : ByteArray) (fb : Nat) (tb : ByteArray) : Prop :=
  fa + ta.size = fb + tb.size ∧ fa + ta.size ≤ 256 * k ∧ ta.size ≤ 256 ∧ ∃ x : List UInt8, ta.data.toList = x ++ tb.data.toList
theorem KInv.zero : KInv 0 0 ⟨#[]⟩ 0 ⟨#[]⟩ := ⟨rfl, by decide, by decide, [], rfl⟩

theorem KInv.type {k fa fb : Nat} {ta tb : ByteArray} (h : KInv k fa ta fb tb) : fb + tb.size = fa + ta.size ∧ fb ≤ fa + ta.size ∧ tb.size ≤ ta.size ∧ tb.size ≤ 256 ∧ fa ≤ 256 * k ∧ fb ≤ 256 * k ∧ ta.size ≤ 256 := by
  obtain ⟨h1, h2, h3, x, hx⟩ := h
  have : ta.data.toList.length = x.length + tb.data.toList.length := by rw [hx]; simp
  have e1 : ta.data.toList.length = ta.size := rfl
  have e2 : tb.data.toList.length = tb.size := rfl
  omega
set_option maxHeartbeats 400000 in
theorem diff_follow (fa fb : Nat) (ta tb s : ByteArray) (w : World) (h0 : fa + ta.size = fb + tb.size) (h1 : fa ≤ 10000) (h2 : ta.size ≤ 256) (h3 : fb ≤ 10000) (h4 : tb.size + s.size ≤ 256) :
    Calls Try.prog 9 #[KV fa ta, KV fb (tb ++ s)] w fun e w' => e = .returned (.tuple #[.string s, .int .i64 0]) ∧ Below w.heap.size w w' := by
  have := diff_in fa fb ta (tb ++ s) w (by omega) (by omega) (by omega) (by rw [sz_app]; omega) (by omega) (by rw [sz_app]; omega)
  rwa [ext_app tb s _ (by omega)] at this

theorem do_follow (k fa fb : Nat) (ta tb s : ByteArray) (w : World) (hI : KInv k fa ta fb tb) (hk : k ≤ 20) (h4 : tb.size + s.size ≤ 256) :
    Calls Try.prog 10 #[KV fa ta, .string s] w fun e w' => ∃ fa' ta', e = .returned (.tuple #[KV fa' ta', .int .i64 0]) ∧ KInv (k + 1) fa' ta' fb (tb ++ s) ∧ Below w.heap.size w w' := by
  have ht := hI.type
  obtain ⟨h1, h2, h3, x, hx⟩ := hI
  by_cases hc : ta.size + s.size ≤ 256
  · refine (do_fits fa ta s w (by omega) (by omega) hc).mono ?_
    rintro e w' ⟨rfl, hb⟩
    exact ⟨fa, ta ++ s, rfl, ⟨by rw [sz_app, sz_app]; omega, by rw [sz_app]; omega, by rw [sz_app]; omega, x, by simp [hx]⟩, hb⟩
  · obtain ⟨c, hc'⟩ : ∃ c, ta.size + s.size = 256 + c := ⟨ta.size + s.size - 256, by omega⟩
    refine (do_cut fa c ta s w (by omega) (by omega) (by omega) hc' (by omega)).mono ?_
    rintro e w' ⟨rfl, hb⟩
    have hsz : ((ta ++ s).extract c (ta.size + s.size)).size = 256 := by
      rw [ByteArray.size_extract, sz_app]; omega
    refine ⟨fa + c, _, rfl, ⟨by rw [sz_app, hsz]; omega, by rw [hsz]; omega, by omega, x.drop c, ?_⟩, hb⟩
    have hcx : c ≤ x.length := by
      have e1 : ta.data.toList.length = ta.size := rfl
      have e2 : tb.data.toList.length = tb.size := rfl
      have : ta.data.toList.length = x.length + tb.data.toList.length := by rw [hx]; simp
      omega
    rw [ba_extract, ba_app, ba_app, hx, List.drop_append_of_le_length (by simp; omega), List.drop_append_of_le_length hcx, List.take_of_length_le]
    · simp
    · have e1 : ta.data.toList.length = ta.size := rfl
      have e2 : tb.data.toList.length = tb.size := rfl
      have e3 : s.data.toList.length = s.size := rfl
      have : ta.data.toList.length = x.length + tb.data.toList.length := by rw [hx]; simp
      simp only [List.length_append, List.length_drop]
      omega

theorem same_follow (k fa fb : Nat) (ta tb : ByteArray) (w : World) (hI : KInv k fa ta fb tb) (hk : k ≤ 21) :
    Calls Try.prog 11 #[KV fa ta, KV fb tb] w fun e w' => e = .returned (.bool true) ∧ Below w.heap.size w w' := by
  have ht := hI.type
  obtain ⟨h1, h2, h3, x, hx⟩ := hI
  refine (same_any fa fb ta tb w (by omega) (by omega) (by omega) (by omega)).mono ?_
  rintro e w' ⟨rfl, hb⟩
  refine ⟨?_, hb⟩
  have hs : sameB ta tb = true := by
    have e1 : ta.data.toList.length = ta.size := rfl
    have e2 : tb.data.toList.length = tb.size := rfl
    have hl : ta.data.toList.length = x.length + tb.data.toList.length := by rw [hx]; simp
    unfold sameB
    split
    · have hx0 : x = [] := List.eq_nil_of_length_eq_zero (by omega)
      rw [ba_beq, decide_eq_true_eq]
      apply ba_ext
      rw [ba_extract, hx, hx0, show tb.size - ta.size = 0 from by omega, List.nil_append, List.drop_zero, List.take_of_length_le (by omega)]
    · rw [ba_beq, decide_eq_true_eq]
      apply ba_ext
      rw [ba_extract, hx, show ta.size - tb.size = x.length from by omega, List.drop_left, List.take_of_length_le (by omega)]
  rw [hs]
  simp [h1]

theorem forget_follow (k fa fb : Nat) (ta tb : ByteArray) (w : World) (hI : KInv k fa ta fb tb) (hk : k ≤ 21) :
    Calls Try.prog 13 #[KV fb tb, .int .u64 ((fa + ta.size : Nat) : Int)] w fun e w' => e = .returned (KV (fa + ta.size) ByteArray.empty) ∧ Below w.heap.size w w' := by
  have ht := hI.type
  refine (forget_any fb (fa + ta.size) tb w (by omega) (by omega)).mono ?_
  rintro e w' ⟨rfl, hb⟩
  have e1 : fgFrom fb (fa + ta.size) tb = fa + ta.size := by unfold fgFrom; omega
  rw [e1, ext_size _ _ _ (by omega)]
  exact ⟨rfl, hb⟩
theorem KInv.forgot {k fa fb : Nat} {ta tb : ByteArray} (h : KInv k fa ta fb tb) : KInv k fa ta (fa + ta.size) ByteArray.empty :=
  ⟨by simp, h.2.1, h.2.2.1, ta.data.toList, by simp⟩

set_option maxHeartbeats 1000000 in
set_option maxRecDepth 100000 in
theorem follow_none (a : Option Addr) (cap : Nat) (f : Int) (w : World) :
    Calls Try.prog 3 #[.slice a 0 cap, .int .u32 f] w fun e w' => e = .returned (.bool true) ∧ Below w.heap.size w w' := by
  go_enter Try.func3, Try.ntmps3
  go_wp2_with fail
  refine (awake_any _).mono ?_
  rintro e w1 ⟨rfl, hb⟩
  have HB : Below w.heap.size w w1 := Below.thn (by (repeat (first | (with_reducible assumption) | (with_reducible exact Below.refl _ _) | with_reducible apply Below.drew | (with_reducible apply bl_alloc; focus (first | (simp; done) | (simp; omega) | omega)) | (with_reducible apply bl_set; focus (first | (simp; done) | (simp; omega) | omega))))) hb
  have HBs := HB.size
  clear hb
  go_wp2
  go_loopg [26] 1 (fun g t26 wr => t26 = .int .i64 0 ∧ Below w.heap.size w wr)
  case atStart => 
    refine ⟨rfl, ?_⟩
    repeat (first | (with_reducible assumption) | (with_reducible exact Below.refl _ _) | with_reducible apply Below.drew | (with_reducible apply bl_alloc; focus (first | (simp; done) | (simp; omega) | omega)) | (with_reducible apply bl_set; focus (first | (simp; done) | (simp; omega) | omega)))
  case round =>
    obtain ⟨rfl, hb⟩ := hrel
    go_wp2
    go_ret
    exact ⟨rfl, hb⟩

set_option maxHeartbeats 1000000 in
set_option maxRecDepth 100000 in
theorem follow_long (a : Option Addr) (len cap : Nat) (f : Int) (w : World) (hl : 20 < len) (hm : len ≤ 140737488355328) :
    Calls Try.prog 3 #[.slice a len cap, .int .u32 f] w fun e w' => e = .returned (.bool true) ∧ Below w.heap.size w w' := by
  go_enter Try.func3, Try.ntmps3
  go_wp2_with fail
  refine (awake_any _).mono ?_
  rintro e w1 ⟨rfl, hb⟩
  have HB : Below w.heap.size w w1 := Below.thn (by (repeat (first | (with_reducible assumption) | (with_reducible exact Below.refl _ _) | with_reducible apply Below.drew | (with_reducible apply bl_alloc; focus (first | (simp; done) | (simp; omega) | omega)) | (with_reducible apply bl_set; focus (first | (simp; done) | (simp; omega) | omega))))) hb
  have HBs := HB.size
  clear hb
  go_wp2
  go_ret
  exact ⟨rfl, HB⟩

set_option maxHeartbeats 1000000 in
set_option maxRecDepth 100000 in
theorem follow_some (b off len cap : Nat) (ss : List ByteArray) (f : Int) (w : World) (hl : len ≤ 20) (hb : b < w.heap.size) (hf0 : 0 ≤ f) (hf1 : f ≤ 4294967295)
    (hlen : ss.length = len) (hc : ∀ j, j < len → w.cell? ⟨b, off + j, none⟩ = some (.string (ss.getD j ByteArray.empty))) (hsz : ∀ j, j < len → (ss.getD j ByteArray.empty).size ≤ 140737488355328) :
    Calls Try.prog 3 #[.slice (some ⟨b, off, none⟩) len cap, .int .u32 f] w fun e w' => e = .returned (.bool true) ∧ Below w.heap.size w w' := by
  have hl' : ¬ 20 < (len : Int) := by omega
  have HL := Lib.hid hlen
  clear hlen
  go_enter Try.func3, Try.ntmps3
  go_wp2_with fail
  refine (awake_any _).mono ?_
  rintro e w1 ⟨rfl, hb⟩
  have HB : Below w.heap.size w w1 := Below.thn (by (repeat (first | (with_reducible assumption) | (with_reducible exact Below.refl _ _) | with_reducible apply Below.drew | (with_reducible apply bl_alloc; focus (first | (simp; done) | (simp; omega) | omega)) | (with_reducible apply bl_set; focus (first | (simp; done) | (simp; omega) | omega))))) hb
  have HBs := HB.size
  clear hb
  go_wp2_with fail
  refine wp_abs2 (w1.heap.size) 27 (w1.heap.size+1) 27 (n := w.heap.size) (w := w) (by (repeat (first | (with_reducible assumption) | (with_reducible exact Below.refl _ _) | with_reducible apply Below.drew | (with_reducible apply bl_alloc; focus (first | (simp; done) | (simp; omega) | omega)) | (with_reducible apply bl_set; focus (first | (simp; done) | (simp; omega) | omega))))) (by (repeat (first | (with_reducible assumption) | (with_reducible apply Blk.new'; (first | (with_reducible rfl) | (simp; done))) | with_reducible apply Blk.alloc | with_reducible apply Blk.set | ((with_reducible apply Blk.set_ne); focus (first | (simp; done) | (simp; omega))) | with_reducible apply Blk.drew))) (by (repeat (first | (with_reducible assumption) | (with_reducible apply Blk.new'; (first | (with_reducible rfl) | (simp; done))) | with_reducible apply Blk.alloc | with_reducible apply Blk.set | ((with_reducible apply Blk.set_ne); focus (first | (simp; done) | (simp; omega))) | with_reducible apply Blk.drew))) (fun W1 HB B5 B6 => ?_)
  have HBs := HB.size
  have B5c := B5.cell; have B5f := B5.frozen; have B5l := B5.lt
  have B6c := B6.cell; have B6f := B6.frozen; have B6l := B6.lt
  go_loopg [26] len (fun g t26 wr => ∃ k fa ta fb tb, t26 = .int .i64 (k : Nat) ∧ k + g = len ∧ KInv k fa ta fb tb ∧ Below w.heap.size w wr ∧ Blk wr w1.heap.size #[.int .u64 fa, .string ta] 27 ∧ Blk wr (w1.heap.size + 1) #[.int .u64 fb, .string tb] 27)
  case atStart => exact ⟨0, 0, ⟨#[]⟩, 0, ⟨#[]⟩, rfl, by omega, KInv.zero, HB, B5, B6⟩
  case round =>
    clear B5 B5c B5f B5l B6 B6c B6f B6l HBs HB
    obtain ⟨k, fa, ta, fb, tb, rfl, hkg, hI, HB, B5, B6⟩ := hrel
    have HBs := HB.size
    have B5c := B5.cell; have B5f := B5.frozen; have B5l := B5.lt; have B6c := B6.cell; have B6f := B6.frozen; have B6l := B6.lt
    cases gk with
    | zero =>
      have hk : ¬ (k : Int) < len := by omega
      go_wp2
      go_ret
      exact ⟨rfl, HB⟩
    | succ g =>
      have hk : (k : Int) < len := by omega
      have hkl : k < len := by omega
      have HC : wr.cell? ⟨b, off + k, none⟩ = some (.string (ss.getD k ByteArray.empty)) := (HB.cell (p := ⟨b, off + k, none⟩) hb).trans (hc k hkl)
      have hs := hsz k hkl
      generalize ss.getD k ByteArray.empty = s at HC hs
      obtain ⟨hx0, hx1, hx2, hx3, hx4, hx5, hx6⟩ := hI.type
      have HX := Lib.hid hx0
      have HK := Lib.hid hkg
      have hk20 : k ≤ 20 := by omega
      have hk19 : k < 20 := by omega
      clear hx0 hkg
      by_cases hfit : tb.size + s.size ≤ 256
      · go_wp2_with fail
        refine (type_ok fb tb s _ (by omega) (by omega) hfit).mono ?_
        rintro e w2 ⟨rfl, hb⟩
        have HB : Below w.heap.size w w2 := Below.thn (by (repeat (first | (with_reducible assumption) | (with_reducible exact Below.refl _ _) | with_reducible apply Below.drew | (with_reducible apply bl_alloc; focus (first | (simp; done) | (simp; omega) | omega)) | (with_reducible apply bl_set; focus (first | (simp; done) | (simp; omega) | omega))))) hb
        have HBs := HB.size
        have B5 := Blk.below (b := w1.heap.size) (t := 27) (by (repeat (first | (with_reducible assumption) | (with_reducible apply Blk.new'; (first | (with_reducible rfl) | (simp; done))) | with_reducible apply Blk.alloc | with_reducible apply Blk.set | ((with_reducible apply Blk.set_ne); focus (first | (simp; done) | (simp; omega))) | with_reducible apply Blk.drew))) hb
        have B5c := B5.cell; have B5f := B5.frozen; have B5l := B5.lt
        have B6 := Blk.below (b := w1.heap.size+1) (t := 27) (by (repeat (first | (with_reducible assumption) | (with_reducible apply Blk.new'; (first | (with_reducible rfl) | (simp; done))) | with_reducible apply Blk.alloc | with_reducible apply Blk.set | ((with_reducible apply Blk.set_ne); focus (first | (simp; done) | (simp; omega))) | with_reducible apply Blk.drew))) hb
        have B6c := B6.cell; have B6f := B6.frozen; have B6l := B6.lt
        clear hb
        go_wp2_with fail
        refine (diff_follow fa fb ta tb s _ (by have := HX.out; omega) (by omega) (by omega) (by omega) hfit).mono ?_
        rintro e w3 ⟨rfl, hb⟩
        have HB : Below w.heap.size w w3 := Below.thn (by (repeat (first | (with_reducible assumption) | (with_reducible exact Below.refl _ _) | with_reducible apply Below.drew | (with_reducible apply bl_alloc; focus (first | (simp; done) | (simp; omega) | omega)) | (with_reducible apply bl_set; focus (first | (simp; done) | (simp; omega) | omega))))) hb
        have HBs := HB.size
        have B5 := Blk.below (b := w1.heap.size) (t := 27) (by (repeat (first | (with_reducible assumption) | (with_reducible apply Blk.new'; (first | (with_reducible rfl) | (simp; done))) | with_reducible apply Blk.alloc | with_reducible apply Blk.set | ((with_reducible apply Blk.set_ne); focus (first | (simp; done) | (simp; omega))) | with_reducible apply Blk.drew))) hb
        have B5c := B5.cell; have B5f := B5.frozen; have B5l := B5.lt
        have B6 := Blk.below (b := w1.heap.size+1) (t := 27) (by (repeat (first | (with_reducible assumption) | (with_reducible apply Blk.new'; (first | (with_reducible rfl) | (simp; done))) | with_reducible apply Blk.alloc | with_reducible apply Blk.set | ((with_reducible apply Blk.set_ne); focus (first | (simp; done) | (simp; omega))) | with_reducible apply Blk.drew))) hb
        have B6c := B6.cell; have B6f := B6.frozen; have B6l := B6.lt
        clear hb
        go_wp2_with fail
        refine (do_follow k fa fb ta tb s _ hI hk20 hfit).mono ?_
        rintro e w4 ⟨fa2, ta2, rfl, hI2, hb⟩
        have HB : Below w.heap.size w w4 := Below.thn (by (repeat (first | (with_reducible assumption) | (with_reducible exact Below.refl _ _) | with_reducible apply Below.drew | (with_reducible apply bl_alloc; focus (first | (simp; done) | (simp; omega) | omega)) | (with_reducible apply bl_set; focus (first | (simp; done) | (simp; omega) | omega))))) hb
        have HBs := HB.size
        have B5 := Blk.below (b := w1.heap.size) (t := 27) (by (repeat (first | (with_reducible assumption) | (with_reducible apply Blk.new'; (first | (with_reducible rfl) | (simp; done))) | with_reducible apply Blk.alloc | with_reducible apply Blk.set | ((with_reducible apply Blk.set_ne); focus (first | (simp; done) | (simp; omega))) | with_reducible apply Blk.drew))) hb
        have B5c := B5.cell; have B5f := B5.frozen; have B5l := B5.lt
        have B6 := Blk.below (b := w1.heap.size+1) (t := 27) (by (repeat (first | (with_reducible assumption) | (with_reducible apply Blk.new'; (first | (with_reducible rfl) | (simp; done))) | with_reducible apply Blk.alloc | with_reducible apply Blk.set | ((with_reducible apply Blk.set_ne); focus (first | (simp; done) | (simp; omega))) | with_reducible apply Blk.drew))) hb
        have B6c := B6.cell; have B6f := B6.frozen; have B6l := B6.lt
        clear hb
        go_wp2_with fail
        refine (same_follow (k+1) fa2 fb ta2 (tb ++ s) _ hI2 (by omega)).mono ?_
        rintro e w5 ⟨rfl, hb⟩
        have HB : Below w.heap.size w w5 := Below.thn (by (repeat (first | (with_reducible assumption) | (with_reducible exact Below.refl _ _) | with_reducible apply Below.drew | (with_reducible apply bl_alloc; focus (first | (simp; done) | (simp; omega) | omega)) | (with_reducible apply bl_set; focus (first | (simp; done) | (simp; omega) | omega))))) hb
        have HBs := HB.size
        have B5 := Blk.below (b := w1.heap.size) (t := 27) (by (repeat (first | (with_reducible assumption) | (with_reducible apply Blk.new'; (first | (with_reducible rfl) | (simp; done))) | with_reducible apply Blk.alloc | with_reducible apply Blk.set | ((with_reducible apply Blk.set_ne); focus (first | (simp; done) | (simp; omega))) | with_reducible apply Blk.drew))) hb
        have B5c := B5.cell; have B5f := B5.frozen; have B5l := B5.lt
        have B6 := Blk.below (b := w1.heap.size+1) (t := 27) (by (repeat (first | (with_reducible assumption) | (with_reducible apply Blk.new'; (first | (with_reducible rfl) | (simp; done))) | with_reducible apply Blk.alloc | with_reducible apply Blk.set | ((with_reducible apply Blk.set_ne); focus (first | (simp; done) | (simp; omega))) | with_reducible apply Blk.drew))) hb
        have B6c := B6.cell; have B6f := B6.frozen; have B6l := B6.lt
        have B13 := Blk.below (b := w4.heap.size) (t := 27) (by (repeat (first | (with_reducible assumption) | (with_reducible apply Blk.new'; (first | (with_reducible rfl) | (simp; done))) | with_reducible apply Blk.alloc | with_reducible apply Blk.set | ((with_reducible apply Blk.set_ne); focus (first | (simp; done) | (simp; omega))) | with_reducible apply Blk.drew))) hb
        have B13c := B13.cell; have B13f := B13.frozen; have B13l := B13.lt
        clear hb
        go_wp2_with fail
        · go_wp2_with fail
          refine (ends_any fa2 ta2 _ (by have := hI2.type; omega) (by have := hI2.type; omega)).mono ?_
          rintro e w6 ⟨rfl, hb⟩
          have HB : Below w.heap.size w w6 := Below.thn (by (repeat (first | (with_reducible assumption) | (with_reducible exact Below.refl _ _) | with_reducible apply Below.drew | (with_reducible apply bl_alloc; focus (first | (simp; done) | (simp; omega) | omega)) | (with_reducible apply bl_set; focus (first | (simp; done) | (simp; omega) | omega))))) hb
          have HBs := HB.size
          have B5 := Blk.below (b := w1.heap.size) (t := 27) (by (repeat (first | (with_reducible assumption) | (with_reducible apply Blk.new'; (first | (with_reducible rfl) | (simp; done))) | with_reducible apply Blk.alloc | with_reducible apply Blk.set | ((with_reducible apply Blk.set_ne); focus (first | (simp; done) | (simp; omega))) | with_reducible apply Blk.drew))) hb
          have B5c := B5.cell; have B5f := B5.frozen; have B5l := B5.lt
          have B6 := Blk.below (b := w1.heap.size+1) (t := 27) (by (repeat (first | (with_reducible assumption) | (with_reducible apply Blk.new'; (first | (with_reducible rfl) | (simp; done))) | with_reducible apply Blk.alloc | with_reducible apply Blk.set | ((with_reducible apply Blk.set_ne); focus (first | (simp; done) | (simp; omega))) | with_reducible apply Blk.drew))) hb
          have B6c := B6.cell; have B6f := B6.frozen; have B6l := B6.lt
          clear hb
          go_wp2_with fail
          refine (forget_follow (k+1) fa2 fb ta2 (tb ++ s) _ hI2 (by omega)).mono ?_
          rintro e w7 ⟨rfl, hb⟩
          have HB : Below w.heap.size w w7 := Below.thn (by (repeat (first | (with_reducible assumption) | (with_reducible exact Below.refl _ _) | with_reducible apply Below.drew | (with_reducible apply bl_alloc; focus (first | (simp; done) | (simp; omega) | omega)) | (with_reducible apply bl_set; focus (first | (simp; done) | (simp; omega) | omega))))) hb
          have HBs := HB.size
          have B5 := Blk.below (b := w1.heap.size) (t := 27) (by (repeat (first | (with_reducible assumption) | (with_reducible apply Blk.new'; (first | (with_reducible rfl) | (simp; done))) | with_reducible apply Blk.alloc | with_reducible apply Blk.set | ((with_reducible apply Blk.set_ne); focus (first | (simp; done) | (simp; omega))) | with_reducible apply Blk.drew))) hb
          have B5c := B5.cell; have B5f := B5.frozen; have B5l := B5.lt
          have B6 := Blk.below (b := w1.heap.size+1) (t := 27) (by (repeat (first | (with_reducible assumption) | (with_reducible apply Blk.new'; (first | (with_reducible rfl) | (simp; done))) | with_reducible apply Blk.alloc | with_reducible apply Blk.set | ((with_reducible apply Blk.set_ne); focus (first | (simp; done) | (simp; omega))) | with_reducible apply Blk.drew))) hb
          have B6c := B6.cell; have B6f := B6.frozen; have B6l := B6.lt
          clear hb
          go_wp2_with fail
          refine (ends_any (fa2 + ta2.size) ByteArray.empty _ (by have := hI2.type; omega) (by decide)).mono ?_
          rintro e w8 ⟨rfl, hb⟩
          have HB : Below w.heap.size w w8 := Below.thn (by (repeat (first | (with_reducible assumption) | (with_reducible exact Below.refl _ _) | with_reducible apply Below.drew | (with_reducible apply bl_alloc; focus (first | (simp; done) | (simp; omega) | omega)) | (with_reducible apply bl_set; focus (first | (simp; done) | (simp; omega) | omega))))) hb
          have HBs := HB.size
          have B5 := Blk.below (b := w1.heap.size) (t := 27) (by (repeat (first | (with_reducible assumption) | (with_reducible apply Blk.new'; (first | (with_reducible rfl) | (simp; done))) | with_reducible apply Blk.alloc | with_reducible apply Blk.set | ((with_reducible apply Blk.set_ne); focus (first | (simp; done) | (simp; omega))) | with_reducible apply Blk.drew))) hb
          have B5c := B5.cell; have B5f := B5.frozen; have B5l := B5.lt
          have B6 := Blk.below (b := w1.heap.size+1) (t := 27) (by (repeat (first | (with_reducible assumption) | (with_reducible apply Blk.new'; (first | (with_reducible rfl) | (simp; done))) | with_reducible apply Blk.alloc | with_reducible apply Blk.set | ((with_reducible apply Blk.set_ne); focus (first | (simp; done) | (simp; omega))) | with_reducible apply Blk.drew))) hb
          have B6c := B6.cell; have B6f := B6.frozen; have B6l := B6.lt
          clear hb
          go_wp2
          go_roundg g
          case rel =>
            refine ⟨k + 1, fa2, ta2, fa2 + ta2.size, ByteArray.empty, by go_num, by have := HK.out; omega, hI2.forgot, HB, ?_, ?_⟩
            · (apply Blk.conv; focus (repeat (first | (with_reducible assumption) | (with_reducible apply Blk.new'; (first | (with_reducible rfl) | (simp; done))) | with_reducible apply Blk.alloc | with_reducible apply Blk.set | ((with_reducible apply Blk.set_ne); focus (first | (simp; done) | (simp; omega))) | with_reducible apply Blk.drew)))
              (first | rfl | (simp; done) | (simp; omega))
            · (apply Blk.conv; focus (repeat (first | (with_reducible assumption) | (with_reducible apply Blk.new'; (first | (with_reducible rfl) | (simp; done))) | with_reducible apply Blk.alloc | with_reducible apply Blk.set | ((with_reducible apply Blk.set_ne); focus (first | (simp; done) | (simp; omega))) | with_reducible apply Blk.drew)))
              (first | rfl | (simp; done) | (simp; omega))
          case measure => omega
        · go_roundg g
          case rel =>
            refine ⟨k + 1, fa2, ta2, fb, tb ++ s, by go_num, by have := HK.out; omega, hI2, ?_, ?_, ?_⟩
            · repeat (first | (with_reducible assumption) | (with_reducible exact Below.refl _ _) | with_reducible apply Below.drew | (with_reducible apply bl_alloc; focus (first | (simp; done) | (simp; omega) | omega)) | (with_reducible apply bl_set; focus (first | (simp; done) | (simp; omega) | omega)))
            · (apply Blk.conv; focus (repeat (first | (with_reducible assumption) | (with_reducible apply Blk.new'; (first | (with_reducible rfl) | (simp; done))) | with_reducible apply Blk.alloc | with_reducible apply Blk.set | ((with_reducible apply Blk.set_ne); focus (first | (simp; done) | (simp; omega))) | with_reducible apply Blk.drew)))
              (first | rfl | (simp; done) | (simp; omega))
            · (apply Blk.conv; focus (repeat (first | (with_reducible assumption) | (with_reducible apply Blk.new'; (first | (with_reducible rfl) | (simp; done))) | with_reducible apply Blk.alloc | with_reducible apply Blk.set | ((with_reducible apply Blk.set_ne); focus (first | (simp; done) | (simp; omega))) | with_reducible apply Blk.drew)))
              (first | rfl | (simp; done) | (simp; omega))
          case measure => omega
      · go_wp2_with fail
        refine (type_full fb tb s _ (by omega) (by omega) hs (by omega)).mono ?_
        rintro e w2 ⟨rfl, hb⟩
        have HB := Below.thn HB hb
        have HBs := HB.size
        go_wp2
        go_ret
        refine ⟨rfl, ?_⟩
        repeat (first | (with_reducible assumption) | (with_reducible exact Below.refl _ _) | with_reducible apply Below.drew | (with_reducible apply bl_alloc; focus (first | (simp; done) | (simp; omega) | omega)) | (with_reducible apply bl_set; focus (first | (simp; done) | (simp; omega) | omega)))
end Go.Proofs.Ytenjijbjdfbkpaa
