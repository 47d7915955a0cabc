/- The script of layer 13's statements: light's other answer, Is, Of. -/
import Derived.Test.YtenjijbjdfbkpaaKeysL1
import Derived.Test.YtenjijbjdfbkpaaTail
import Derived.Test.YtenjijbjdfbkpaaShelf
namespace Go.Proofs.Ytenjijbjdfbkpaa
open Go.RowKit

set_option maxHeartbeats 400000 in
set_option maxRecDepth 100000 in
theorem light_no (b off len cap i : Nat) (l : List KAct) (w : World) (h : ActsAt w b off len l) (hl : len ≤ 140737488355328) (hi : i < len) (ht : 40 < len ∨ 600 < (l.getD i default).t.size) :
    Calls Try.prog 14 #[.slice (some ⟨b, off, none⟩) len cap] w fun e w' => e = .returned (.bool false) ∧ Below w.heap.size w w' := by
  go_enter Try.func14, Try.ntmps14
  go_wp2_with fail
  go_loopg [7] len (fun g t7 wr => ∃ k : Nat, t7 = .int .i64 k ∧ k + g = len ∧ k ≤ i ∧ Below w.heap.size w wr)
  case atStart => exact ⟨0, rfl, by omega, by omega, Below.refl _ _⟩
  case round =>
    obtain ⟨k, rfl, hk, hki, HB⟩ := hrel
    have HBs := HB.size
    have HK := Lib.hid hk
    have HA := Lib.hid (h.below HB)
    have hk' : (k : Int) < len := by omega
    have hk2 : k < len := by omega
    have c0 := HA.out.d k hk2
    have c1 := HA.out.n k hk2
    have c2 := HA.out.t k hk2
    have c3 := HA.out.ht k hk2
    have hkk : k ≠ i ∨ (40 < len ∨ 600 < (l.getD k default).t.size) := by
      by_cases hx : k = i
      · subst hx; exact Or.inr ht
      · exact Or.inl hx
    clear hk
    generalize l.getD k default = x at *
    by_cases h40 : 40 < len
    · have l4 : (40 : Int) < len := by omega
      clear ht hkk
      go_wp2
      go_ret
      refine ⟨rfl, ?_⟩
      repeat (first | (with_reducible assumption) | (with_reducible exact Below.refl _ _) | with_reducible apply bl_drewN | with_reducible apply Below.drew | (with_reducible apply bl_alloc; focus (first | (simp; done) | (simp; omega) | omega)) | (with_reducible apply bl_set; focus (first | (simp; done) | (simp; omega) | omega)))
    · have l4 : ¬ (40 : Int) < len := by omega
      by_cases h6 : 600 < x.t.size
      · have t6' : (600 : Int) < x.t.size := by omega
        clear ht hkk
        go_wp2
        go_ret
        refine ⟨rfl, ?_⟩
        repeat (first | (with_reducible assumption) | (with_reducible exact Below.refl _ _) | with_reducible apply bl_drewN | with_reducible apply Below.drew | (with_reducible apply bl_alloc; focus (first | (simp; done) | (simp; omega) | omega)) | (with_reducible apply bl_set; focus (first | (simp; done) | (simp; omega) | omega)))
      · have t6' : ¬ (600 : Int) < x.t.size := by omega
        have hkn : k < i := by omega
        clear ht hkk
        cases gk with
        | zero => have := HK.out; omega
        | succ g =>
          go_wp2
          go_roundg g
          case rel =>
            refine ⟨k + 1, by go_num, by have := HK.out; omega, by omega, ?_⟩
            repeat (first | (with_reducible assumption) | (with_reducible exact Below.refl _ _) | with_reducible apply bl_drewN | with_reducible apply Below.drew | (with_reducible apply bl_alloc; focus (first | (simp; done) | (simp; omega) | omega)) | (with_reducible apply bl_set; focus (first | (simp; done) | (simp; omega) | omega)))
          case measure => omega

set_option maxHeartbeats 400000 in
theorem is_yes (a : Nat) (s : ByteArray) (w : World) (ha : a ≤ 1000000) (hs : s.size ≤ 1000) :
    Calls Try.prog 21 #[KV a s, KV a s] w fun e w' => e = .returned (.bool true) ∧ Below w.heap.size w w' := by
  go_enter Try.func21, Try.ntmps21
  go_wp2_with fail
  refine (ends_any _ _ _ ha hs).mono ?_
  rintro e w1 ⟨rfl, hb⟩
  have HB : Below w.heap.size w w1 := Below.thn (by (repeat (first | (with_reducible assumption) | (with_reducible exact Below.refl _ _) | with_reducible apply bl_drewN | with_reducible apply Below.drew | (with_reducible apply bl_alloc; focus (first | (simp; done) | (simp; omega) | omega)) | (with_reducible apply bl_set; focus (first | (simp; done) | (simp; omega) | omega))))) hb
  have HBs := HB.size
  have B0 := Blk.below (b := w.heap.size) (t := 27) (by (repeat (first | (with_reducible assumption) | (with_reducible apply Blk.new'; (first | (with_reducible rfl) | (simp; done))) | with_reducible apply Blk.alloc | with_reducible apply Blk.set | ((with_reducible apply Blk.set_ne); focus (first | (simp; done) | (simp; omega))) | with_reducible apply Blk.drewN | with_reducible apply Blk.drew))) hb
  have B0c := B0.cell; have B0f := B0.frozen; have B0l := B0.lt
  have B1 := Blk.below (b := w.heap.size+1) (t := 42) (by (repeat (first | (with_reducible assumption) | (with_reducible apply Blk.new'; (first | (with_reducible rfl) | (simp; done))) | with_reducible apply Blk.alloc | with_reducible apply Blk.set | ((with_reducible apply Blk.set_ne); focus (first | (simp; done) | (simp; omega))) | with_reducible apply Blk.drewN | with_reducible apply Blk.drew))) hb
  have B1c := B1.cell; have B1f := B1.frozen; have B1l := B1.lt
  clear hb
  go_wp2_with fail
  refine (since_in _ _ _ _ ha hs (Nat.le_refl _) (by omega)).mono ?_
  rintro e w2 ⟨rfl, hb⟩
  have HB : Below w.heap.size w w2 := Below.thn (by (repeat (first | (with_reducible assumption) | (with_reducible exact Below.refl _ _) | with_reducible apply bl_drewN | with_reducible apply Below.drew | (with_reducible apply bl_alloc; focus (first | (simp; done) | (simp; omega) | omega)) | (with_reducible apply bl_set; focus (first | (simp; done) | (simp; omega) | omega))))) hb
  have HBs := HB.size
  have B0 := Blk.below (b := w.heap.size) (t := 27) (by (repeat (first | (with_reducible assumption) | (with_reducible apply Blk.new'; (first | (with_reducible rfl) | (simp; done))) | with_reducible apply Blk.alloc | with_reducible apply Blk.set | ((with_reducible apply Blk.set_ne); focus (first | (simp; done) | (simp; omega))) | with_reducible apply Blk.drewN | with_reducible apply Blk.drew))) hb
  have B0c := B0.cell; have B0f := B0.frozen; have B0l := B0.lt
  have B1 := Blk.below (b := w.heap.size+1) (t := 42) (by (repeat (first | (with_reducible assumption) | (with_reducible apply Blk.new'; (first | (with_reducible rfl) | (simp; done))) | with_reducible apply Blk.alloc | with_reducible apply Blk.set | ((with_reducible apply Blk.set_ne); focus (first | (simp; done) | (simp; omega))) | with_reducible apply Blk.drewN | with_reducible apply Blk.drew))) hb
  have B1c := B1.cell; have B1f := B1.frozen; have B1l := B1.lt
  clear hb
  go_wp2_with fail
  refine (rend_any _ _ _ ha hs).mono ?_
  rintro e w3 ⟨rfl, hb⟩
  have HB : Below w.heap.size w w3 := Below.thn (by (repeat (first | (with_reducible assumption) | (with_reducible exact Below.refl _ _) | with_reducible apply bl_drewN | with_reducible apply Below.drew | (with_reducible apply bl_alloc; focus (first | (simp; done) | (simp; omega) | omega)) | (with_reducible apply bl_set; focus (first | (simp; done) | (simp; omega) | omega))))) hb
  have HBs := HB.size
  have B0 := Blk.below (b := w.heap.size) (t := 27) (by (repeat (first | (with_reducible assumption) | (with_reducible apply Blk.new'; (first | (with_reducible rfl) | (simp; done))) | with_reducible apply Blk.alloc | with_reducible apply Blk.set | ((with_reducible apply Blk.set_ne); focus (first | (simp; done) | (simp; omega))) | with_reducible apply Blk.drewN | with_reducible apply Blk.drew))) hb
  have B0c := B0.cell; have B0f := B0.frozen; have B0l := B0.lt
  have B1 := Blk.below (b := w.heap.size+1) (t := 42) (by (repeat (first | (with_reducible assumption) | (with_reducible apply Blk.new'; (first | (with_reducible rfl) | (simp; done))) | with_reducible apply Blk.alloc | with_reducible apply Blk.set | ((with_reducible apply Blk.set_ne); focus (first | (simp; done) | (simp; omega))) | with_reducible apply Blk.drewN | with_reducible apply Blk.drew))) hb
  have B1c := B1.cell; have B1f := B1.frozen; have B1l := B1.lt
  clear hb
  go_wp2
  go_ret
  exact ⟨rfl, HB⟩

end Go.Proofs.Ytenjijbjdfbkpaa
