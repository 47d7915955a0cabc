/-
  Proved: KeysParts: what is typed in two parts is typed as at once, where both fit; where they don't, the whole doesn't (at most 40 turns ahead, texts of at most 600 bytes; else the call returns true as well). The arguments read behind the call as before.
  Conditions: none beside the row's own.
-/
import Derived.Test.YtenjijbjdfbkpaaKeysT
namespace Go.Proofs.Ytenjijbjdfbkpaa
open Go.ChangeShapes Go.WideShapes Go.ChangeAt Go.RowKit
open Go.ChangeMaps (open_string)

theorem same_self (a : Nat) (s : ByteArray) (w : World) (ha : a ≤ 1000000) (hs : s.size ≤ 1000) :
    Calls Try.prog 11 #[KV a s, KV a s] w fun e w' => e = .returned (.bool true) ∧ Below w.heap.size w w' := by
  have h := same_any a a s s w ha hs ha hs
  have e : (decide (a + s.size = a + s.size) && sameB s s) = true := by
    have : sameB s s = true := (sameP_iff s s).2 (fun i _ _ => rfl)
    simp [this]
  rwa [e] at h
theorem app3 (k s t : ByteArray) : k ++ s ++ t = k ++ (s ++ t) := by
  apply ba_ext; simp only [ba_app, List.append_assoc]

set_option maxHeartbeats 1600000 in
set_option maxRecDepth 100000 in
theorem parts_walk (ao : Option Addr) (b off len cap : Nat) (l : List KAct) (s t : ByteArray) (w : World) (hao : 0 < len → ao = some ⟨b, off, none⟩) (hm : len ≤ 140737488355328) (h : ActsAt w b off len l)
    (hs : s.size ≤ 140737488355328) (ht : t.size ≤ 140737488355328) :
    Calls Try.prog 5 #[.slice ao len cap, .string s, .string t] w fun e w' => e = .returned (.bool true) ∧ Below w.heap.size w w' := by
  by_cases hL : Light len l
  · by_cases h600 : s.size ≤ 600 ∧ t.size ≤ 600
    · obtain ⟨hs6, ht6⟩ := h600
      go_enter Try.func5, Try.ntmps5
      go_wp2_with fail
      refine (awake_any _).mono ?_
      rintro e w1 ⟨rfl, hb⟩
      have HB : Below w.heap.size w w1 := Below.thn (by (repeat (first | (with_reducible assumption) | (with_reducible exact Below.refl _ _) | with_reducible apply bl_drewN | with_reducible apply Below.drew | (with_reducible apply bl_alloc; focus (first | (simp; done) | (simp; omega) | omega)) | (with_reducible apply bl_set; focus (first | (simp; done) | (simp; omega) | omega))))) hb
      have HBs := HB.size
      clear hb
      have h1 := Lib.hid (h.below HB)
      go_wp2_with fail
      refine (light_true _ _ _ _ _ _ _ hao h1.out hL).mono ?_
      rintro e w2 ⟨rfl, hb⟩
      have HB : Below w.heap.size w w2 := Below.thn (by (repeat (first | (with_reducible assumption) | (with_reducible exact Below.refl _ _) | with_reducible apply bl_drewN | with_reducible apply Below.drew | (with_reducible apply bl_alloc; focus (first | (simp; done) | (simp; omega) | omega)) | (with_reducible apply bl_set; focus (first | (simp; done) | (simp; omega) | omega))))) hb
      have HBs := HB.size
      clear hb
      have h2 := Lib.hid (h.below HB)
      go_wp2_with fail
      refine (of_light _ _ _ _ _ _ _ hao h2.out hL).mono ?_
      rintro e w3 ⟨a, k, rfl, ha, hk, hb⟩
      have HB : Below w.heap.size w w3 := Below.thn (by (repeat (first | (with_reducible assumption) | (with_reducible exact Below.refl _ _) | with_reducible apply bl_drewN | with_reducible apply Below.drew | (with_reducible apply bl_alloc; focus (first | (simp; done) | (simp; omega) | omega)) | (with_reducible apply bl_set; focus (first | (simp; done) | (simp; omega) | omega))))) hb
      have HBs := HB.size
      clear hb
      by_cases f1 : 256 < k.size + s.size
      · go_wp2_with fail
        refine (type_full _ _ _ _ (by omega) (by omega) hs f1).mono ?_
        rintro e w4 ⟨rfl, hb⟩
        have HB : Below w.heap.size w w4 := Below.thn (by (repeat (first | (with_reducible assumption) | (with_reducible exact Below.refl _ _) | with_reducible apply bl_drewN | with_reducible apply Below.drew | (with_reducible apply bl_alloc; focus (first | (simp; done) | (simp; omega) | omega)) | (with_reducible apply bl_set; focus (first | (simp; done) | (simp; omega) | omega))))) hb
        have HBs := HB.size
        have B7 := Blk.below (b := w3.heap.size) (t := 27) (by (repeat (first | (with_reducible assumption) | (with_reducible apply Blk.new'; (first | (with_reducible rfl) | (simp; done))) | with_reducible apply Blk.alloc | with_reducible apply Blk.set | ((with_reducible apply Blk.set_ne); focus (first | (simp; done) | (simp; omega))) | with_reducible apply Blk.drewN | with_reducible apply Blk.drew))) hb
        have B7c := B7.cell; have B7f := B7.frozen; have B7l := B7.lt
        clear hb
        have hst2 : (s ++ t).size ≤ 140737488355328 := by rw [sz_app]; omega
        have f1' : 256 < k.size + (s ++ t).size := by rw [sz_app]; omega
        by_cases f2 : 256 < k.size + t.size
        · go_wp2_with fail
          refine (type_full _ _ _ _ (by omega) (by omega) ht f2).mono ?_
          rintro e w5 ⟨rfl, hb⟩
          have HB : Below w.heap.size w w5 := Below.thn (by (repeat (first | (with_reducible assumption) | (with_reducible exact Below.refl _ _) | with_reducible apply bl_drewN | with_reducible apply Below.drew | (with_reducible apply bl_alloc; focus (first | (simp; done) | (simp; omega) | omega)) | (with_reducible apply bl_set; focus (first | (simp; done) | (simp; omega) | omega))))) hb
          have HBs := HB.size
          have B7 := Blk.below (b := w3.heap.size) (t := 27) (by (repeat (first | (with_reducible assumption) | (with_reducible apply Blk.new'; (first | (with_reducible rfl) | (simp; done))) | with_reducible apply Blk.alloc | with_reducible apply Blk.set | ((with_reducible apply Blk.set_ne); focus (first | (simp; done) | (simp; omega))) | with_reducible apply Blk.drewN | with_reducible apply Blk.drew))) hb
          have B7c := B7.cell; have B7f := B7.frozen; have B7l := B7.lt
          clear hb
          go_wp2_with fail
          refine (type_full _ _ _ _ (by omega) (by omega) hst2 f1').mono ?_
          rintro e w6 ⟨rfl, hb⟩
          have HB : Below w.heap.size w w6 := Below.thn (by (repeat (first | (with_reducible assumption) | (with_reducible exact Below.refl _ _) | with_reducible apply bl_drewN | with_reducible apply Below.drew | (with_reducible apply bl_alloc; focus (first | (simp; done) | (simp; omega) | omega)) | (with_reducible apply bl_set; focus (first | (simp; done) | (simp; omega) | omega))))) hb
          have HBs := HB.size
          clear hb
          go_wp2
          go_ret
          refine ⟨rfl, ?_⟩
          repeat (first | (with_reducible assumption) | (with_reducible exact Below.refl _ _) | with_reducible apply bl_drewN | with_reducible apply Below.drew | (with_reducible apply bl_alloc; focus (first | (simp; done) | (simp; omega) | omega)) | (with_reducible apply bl_set; focus (first | (simp; done) | (simp; omega) | omega)))
        · go_wp2_with fail
          refine (type_ok _ _ _ _ (by omega) (by omega) (by omega)).mono ?_
          rintro e w5 ⟨rfl, hb⟩
          have HB : Below w.heap.size w w5 := Below.thn (by (repeat (first | (with_reducible assumption) | (with_reducible exact Below.refl _ _) | with_reducible apply bl_drewN | with_reducible apply Below.drew | (with_reducible apply bl_alloc; focus (first | (simp; done) | (simp; omega) | omega)) | (with_reducible apply bl_set; focus (first | (simp; done) | (simp; omega) | omega))))) hb
          have HBs := HB.size
          have B7 := Blk.below (b := w3.heap.size) (t := 27) (by (repeat (first | (with_reducible assumption) | (with_reducible apply Blk.new'; (first | (with_reducible rfl) | (simp; done))) | with_reducible apply Blk.alloc | with_reducible apply Blk.set | ((with_reducible apply Blk.set_ne); focus (first | (simp; done) | (simp; omega))) | with_reducible apply Blk.drewN | with_reducible apply Blk.drew))) hb
          have B7c := B7.cell; have B7f := B7.frozen; have B7l := B7.lt
          clear hb
          go_wp2_with fail
          refine (type_full _ _ _ _ (by omega) (by omega) hst2 f1').mono ?_
          rintro e w6 ⟨rfl, hb⟩
          have HB : Below w.heap.size w w6 := Below.thn (by (repeat (first | (with_reducible assumption) | (with_reducible exact Below.refl _ _) | with_reducible apply bl_drewN | with_reducible apply Below.drew | (with_reducible apply bl_alloc; focus (first | (simp; done) | (simp; omega) | omega)) | (with_reducible apply bl_set; focus (first | (simp; done) | (simp; omega) | omega))))) hb
          have HBs := HB.size
          clear hb
          go_wp2
          go_ret
          refine ⟨rfl, ?_⟩
          repeat (first | (with_reducible assumption) | (with_reducible exact Below.refl _ _) | with_reducible apply bl_drewN | with_reducible apply Below.drew | (with_reducible apply bl_alloc; focus (first | (simp; done) | (simp; omega) | omega)) | (with_reducible apply bl_set; focus (first | (simp; done) | (simp; omega) | omega)))
      · go_wp2_with fail
        refine (type_ok _ _ _ _ (by omega) (by omega) (by omega)).mono ?_
        rintro e w4 ⟨rfl, hb⟩
        have HB : Below w.heap.size w w4 := Below.thn (by (repeat (first | (with_reducible assumption) | (with_reducible exact Below.refl _ _) | with_reducible apply bl_drewN | with_reducible apply Below.drew | (with_reducible apply bl_alloc; focus (first | (simp; done) | (simp; omega) | omega)) | (with_reducible apply bl_set; focus (first | (simp; done) | (simp; omega) | omega))))) hb
        have HBs := HB.size
        have B7 := Blk.below (b := w3.heap.size) (t := 27) (by (repeat (first | (with_reducible assumption) | (with_reducible apply Blk.new'; (first | (with_reducible rfl) | (simp; done))) | with_reducible apply Blk.alloc | with_reducible apply Blk.set | ((with_reducible apply Blk.set_ne); focus (first | (simp; done) | (simp; omega))) | with_reducible apply Blk.drewN | with_reducible apply Blk.drew))) hb
        have B7c := B7.cell; have B7f := B7.frozen; have B7l := B7.lt
        clear hb
        have hks : (k ++ s).size ≤ 256 := by rw [sz_app]; omega
        by_cases f2 : 256 < (k ++ s).size + t.size
        · have hst2 : (s ++ t).size ≤ 140737488355328 := by rw [sz_app]; omega
          have f1' : 256 < k.size + (s ++ t).size := by rw [sz_app] at f2 ⊢; omega
          go_wp2_with fail
          refine (type_full _ _ _ _ (by omega) (by omega) ht f2).mono ?_
          rintro e w5 ⟨rfl, hb⟩
          have HB : Below w.heap.size w w5 := Below.thn (by (repeat (first | (with_reducible assumption) | (with_reducible exact Below.refl _ _) | with_reducible apply bl_drewN | with_reducible apply Below.drew | (with_reducible apply bl_alloc; focus (first | (simp; done) | (simp; omega) | omega)) | (with_reducible apply bl_set; focus (first | (simp; done) | (simp; omega) | omega))))) hb
          have HBs := HB.size
          have B7 := Blk.below (b := w3.heap.size) (t := 27) (by (repeat (first | (with_reducible assumption) | (with_reducible apply Blk.new'; (first | (with_reducible rfl) | (simp; done))) | with_reducible apply Blk.alloc | with_reducible apply Blk.set | ((with_reducible apply Blk.set_ne); focus (first | (simp; done) | (simp; omega))) | with_reducible apply Blk.drewN | with_reducible apply Blk.drew))) hb
          have B7c := B7.cell; have B7f := B7.frozen; have B7l := B7.lt
          clear hb
          go_wp2_with fail
          refine (type_full _ _ _ _ (by omega) (by omega) hst2 f1').mono ?_
          rintro e w6 ⟨rfl, hb⟩
          have HB : Below w.heap.size w w6 := Below.thn (by (repeat (first | (with_reducible assumption) | (with_reducible exact Below.refl _ _) | with_reducible apply bl_drewN | with_reducible apply Below.drew | (with_reducible apply bl_alloc; focus (first | (simp; done) | (simp; omega) | omega)) | (with_reducible apply bl_set; focus (first | (simp; done) | (simp; omega) | omega))))) hb
          have HBs := HB.size
          clear hb
          go_wp2
          go_ret
          refine ⟨rfl, ?_⟩
          repeat (first | (with_reducible assumption) | (with_reducible exact Below.refl _ _) | with_reducible apply bl_drewN | with_reducible apply Below.drew | (with_reducible apply bl_alloc; focus (first | (simp; done) | (simp; omega) | omega)) | (with_reducible apply bl_set; focus (first | (simp; done) | (simp; omega) | omega)))
        · have f3 : k.size + (s ++ t).size ≤ 256 := by rw [sz_app] at f2 ⊢; omega
          have f4 : (k ++ (s ++ t)).size ≤ 256 := by rw [sz_app]; omega
          have HA := Lib.hid (app3 k s t)
          go_wp2_with fail
          refine (type_ok _ _ _ _ (by omega) (by omega) (by omega)).mono ?_
          rintro e w5 ⟨rfl, hb⟩
          have HB : Below w.heap.size w w5 := Below.thn (by (repeat (first | (with_reducible assumption) | (with_reducible exact Below.refl _ _) | with_reducible apply bl_drewN | with_reducible apply Below.drew | (with_reducible apply bl_alloc; focus (first | (simp; done) | (simp; omega) | omega)) | (with_reducible apply bl_set; focus (first | (simp; done) | (simp; omega) | omega))))) hb
          have HBs := HB.size
          have B7 := Blk.below (b := w3.heap.size) (t := 27) (by (repeat (first | (with_reducible assumption) | (with_reducible apply Blk.new'; (first | (with_reducible rfl) | (simp; done))) | with_reducible apply Blk.alloc | with_reducible apply Blk.set | ((with_reducible apply Blk.set_ne); focus (first | (simp; done) | (simp; omega))) | with_reducible apply Blk.drewN | with_reducible apply Blk.drew))) hb
          have B7c := B7.cell; have B7f := B7.frozen; have B7l := B7.lt
          clear hb
          rw [HA.out]
          go_wp2_with fail
          refine (type_ok _ _ _ _ (by omega) (by omega) f3).mono ?_
          rintro e w6 ⟨rfl, hb⟩
          have HB : Below w.heap.size w w6 := Below.thn (by (repeat (first | (with_reducible assumption) | (with_reducible exact Below.refl _ _) | with_reducible apply bl_drewN | with_reducible apply Below.drew | (with_reducible apply bl_alloc; focus (first | (simp; done) | (simp; omega) | omega)) | (with_reducible apply bl_set; focus (first | (simp; done) | (simp; omega) | omega))))) hb
          have HBs := HB.size
          have B12 := Blk.below (b := w5.heap.size) (t := 27) (by (repeat (first | (with_reducible assumption) | (with_reducible apply Blk.new'; (first | (with_reducible rfl) | (simp; done))) | with_reducible apply Blk.alloc | with_reducible apply Blk.set | ((with_reducible apply Blk.set_ne); focus (first | (simp; done) | (simp; omega))) | with_reducible apply Blk.drewN | with_reducible apply Blk.drew))) hb
          have B12c := B12.cell; have B12f := B12.frozen; have B12l := B12.lt
          clear hb
          go_wp2_with fail
          refine (ends_any _ _ _ (by omega) (by omega)).mono ?_
          rintro e w7 ⟨rfl, hb⟩
          have HB : Below w.heap.size w w7 := Below.thn (by (repeat (first | (with_reducible assumption) | (with_reducible exact Below.refl _ _) | with_reducible apply bl_drewN | with_reducible apply Below.drew | (with_reducible apply bl_alloc; focus (first | (simp; done) | (simp; omega) | omega)) | (with_reducible apply bl_set; focus (first | (simp; done) | (simp; omega) | omega))))) hb
          have HBs := HB.size
          have B12 := Blk.below (b := w5.heap.size) (t := 27) (by (repeat (first | (with_reducible assumption) | (with_reducible apply Blk.new'; (first | (with_reducible rfl) | (simp; done))) | with_reducible apply Blk.alloc | with_reducible apply Blk.set | ((with_reducible apply Blk.set_ne); focus (first | (simp; done) | (simp; omega))) | with_reducible apply Blk.drewN | with_reducible apply Blk.drew))) hb
          have B12c := B12.cell; have B12f := B12.frozen; have B12l := B12.lt
          have B14 := Blk.below (b := w6.heap.size) (t := 27) (by (repeat (first | (with_reducible assumption) | (with_reducible apply Blk.new'; (first | (with_reducible rfl) | (simp; done))) | with_reducible apply Blk.alloc | with_reducible apply Blk.set | ((with_reducible apply Blk.set_ne); focus (first | (simp; done) | (simp; omega))) | with_reducible apply Blk.drewN | with_reducible apply Blk.drew))) hb
          have B14c := B14.cell; have B14f := B14.frozen; have B14l := B14.lt
          clear hb
          go_wp2_with fail
          refine (ends_any _ _ _ (by omega) (by omega)).mono ?_
          rintro e w8 ⟨rfl, hb⟩
          have HB : Below w.heap.size w w8 := Below.thn (by (repeat (first | (with_reducible assumption) | (with_reducible exact Below.refl _ _) | with_reducible apply bl_drewN | with_reducible apply Below.drew | (with_reducible apply bl_alloc; focus (first | (simp; done) | (simp; omega) | omega)) | (with_reducible apply bl_set; focus (first | (simp; done) | (simp; omega) | omega))))) hb
          have HBs := HB.size
          have B12 := Blk.below (b := w5.heap.size) (t := 27) (by (repeat (first | (with_reducible assumption) | (with_reducible apply Blk.new'; (first | (with_reducible rfl) | (simp; done))) | with_reducible apply Blk.alloc | with_reducible apply Blk.set | ((with_reducible apply Blk.set_ne); focus (first | (simp; done) | (simp; omega))) | with_reducible apply Blk.drewN | with_reducible apply Blk.drew))) hb
          have B12c := B12.cell; have B12f := B12.frozen; have B12l := B12.lt
          have B14 := Blk.below (b := w6.heap.size) (t := 27) (by (repeat (first | (with_reducible assumption) | (with_reducible apply Blk.new'; (first | (with_reducible rfl) | (simp; done))) | with_reducible apply Blk.alloc | with_reducible apply Blk.set | ((with_reducible apply Blk.set_ne); focus (first | (simp; done) | (simp; omega))) | with_reducible apply Blk.drewN | with_reducible apply Blk.drew))) hb
          have B14c := B14.cell; have B14f := B14.frozen; have B14l := B14.lt
          clear hb
          go_wp2_with fail
          refine (since_any _ _ _ _ (by omega) (by omega)).mono ?_
          rintro e w9 ⟨rfl, hb⟩
          have HB : Below w.heap.size w w9 := Below.thn (by (repeat (first | (with_reducible assumption) | (with_reducible exact Below.refl _ _) | with_reducible apply bl_drewN | with_reducible apply Below.drew | (with_reducible apply bl_alloc; focus (first | (simp; done) | (simp; omega) | omega)) | (with_reducible apply bl_set; focus (first | (simp; done) | (simp; omega) | omega))))) hb
          have HBs := HB.size
          have B12 := Blk.below (b := w5.heap.size) (t := 27) (by (repeat (first | (with_reducible assumption) | (with_reducible apply Blk.new'; (first | (with_reducible rfl) | (simp; done))) | with_reducible apply Blk.alloc | with_reducible apply Blk.set | ((with_reducible apply Blk.set_ne); focus (first | (simp; done) | (simp; omega))) | with_reducible apply Blk.drewN | with_reducible apply Blk.drew))) hb
          have B12c := B12.cell; have B12f := B12.frozen; have B12l := B12.lt
          have B14 := Blk.below (b := w6.heap.size) (t := 27) (by (repeat (first | (with_reducible assumption) | (with_reducible apply Blk.new'; (first | (with_reducible rfl) | (simp; done))) | with_reducible apply Blk.alloc | with_reducible apply Blk.set | ((with_reducible apply Blk.set_ne); focus (first | (simp; done) | (simp; omega))) | with_reducible apply Blk.drewN | with_reducible apply Blk.drew))) hb
          have B14c := B14.cell; have B14f := B14.frozen; have B14l := B14.lt
          clear hb
          go_wp2_with fail
          refine (since_any _ _ _ _ (by omega) (by omega)).mono ?_
          rintro e w10 ⟨rfl, hb⟩
          have HB : Below w.heap.size w w10 := Below.thn (by (repeat (first | (with_reducible assumption) | (with_reducible exact Below.refl _ _) | with_reducible apply bl_drewN | with_reducible apply Below.drew | (with_reducible apply bl_alloc; focus (first | (simp; done) | (simp; omega) | omega)) | (with_reducible apply bl_set; focus (first | (simp; done) | (simp; omega) | omega))))) hb
          have HBs := HB.size
          have B12 := Blk.below (b := w5.heap.size) (t := 27) (by (repeat (first | (with_reducible assumption) | (with_reducible apply Blk.new'; (first | (with_reducible rfl) | (simp; done))) | with_reducible apply Blk.alloc | with_reducible apply Blk.set | ((with_reducible apply Blk.set_ne); focus (first | (simp; done) | (simp; omega))) | with_reducible apply Blk.drewN | with_reducible apply Blk.drew))) hb
          have B12c := B12.cell; have B12f := B12.frozen; have B12l := B12.lt
          have B14 := Blk.below (b := w6.heap.size) (t := 27) (by (repeat (first | (with_reducible assumption) | (with_reducible apply Blk.new'; (first | (with_reducible rfl) | (simp; done))) | with_reducible apply Blk.alloc | with_reducible apply Blk.set | ((with_reducible apply Blk.set_ne); focus (first | (simp; done) | (simp; omega))) | with_reducible apply Blk.drewN | with_reducible apply Blk.drew))) hb
          have B14c := B14.cell; have B14f := B14.frozen; have B14l := B14.lt
          clear hb
          have hE : sinceE a a (k ++ (s ++ t)) = 0 := by unfold sinceE; rw [if_pos (by omega)]
          go_wp2_with fail
          refine (same_self _ _ _ (by omega) (by omega)).mono ?_
          rintro e w11 ⟨rfl, hb⟩
          have HB : Below w.heap.size w w11 := Below.thn (by (repeat (first | (with_reducible assumption) | (with_reducible exact Below.refl _ _) | with_reducible apply bl_drewN | with_reducible apply Below.drew | (with_reducible apply bl_alloc; focus (first | (simp; done) | (simp; omega) | omega)) | (with_reducible apply bl_set; focus (first | (simp; done) | (simp; omega) | omega))))) hb
          have HBs := HB.size
          clear hb
          go_wp2
          go_ret
          exact ⟨rfl, HB⟩
    · have hM : (600 : Int) < s.size ∨ (600 : Int) < t.size := by omega
      have hbig : (600 : Int) < (if (s.size : Int) < t.size then (t.size : Int) else s.size) := by split <;> omega
      have hbig2 : (600 : Int) < (if (t.size : Int) < s.size then (s.size : Int) else t.size) := by split <;> omega
      go_enter Try.func5, Try.ntmps5
      go_wp2_with fail
      refine (awake_any _).mono ?_
      rintro e w1 ⟨rfl, hb⟩
      have HB : Below w.heap.size w w1 := Below.thn (by (repeat (first | (with_reducible assumption) | (with_reducible exact Below.refl _ _) | with_reducible apply bl_drewN | with_reducible apply Below.drew | (with_reducible apply bl_alloc; focus (first | (simp; done) | (simp; omega) | omega)) | (with_reducible apply bl_set; focus (first | (simp; done) | (simp; omega) | omega))))) hb
      have HBs := HB.size
      clear hb
      have h1 := Lib.hid (h.below HB)
      go_wp2_with fail
      refine (light_true _ _ _ _ _ _ _ hao h1.out hL).mono ?_
      rintro e w2 ⟨rfl, hb⟩
      have HB : Below w.heap.size w w2 := Below.thn (by (repeat (first | (with_reducible assumption) | (with_reducible exact Below.refl _ _) | with_reducible apply bl_drewN | with_reducible apply Below.drew | (with_reducible apply bl_alloc; focus (first | (simp; done) | (simp; omega) | omega)) | (with_reducible apply bl_set; focus (first | (simp; done) | (simp; omega) | omega))))) hb
      have HBs := HB.size
      clear hb
      clear h600
      go_wp2
      all_goals first
        | (go_ret; exact ⟨rfl, HB⟩)
        | (exfalso; omega)
  · go_enter Try.func5, Try.ntmps5
    go_wp2_with fail
    refine (awake_any _).mono ?_
    rintro e w1 ⟨rfl, hb⟩
    have HB : Below w.heap.size w w1 := Below.thn (by (repeat (first | (with_reducible assumption) | (with_reducible exact Below.refl _ _) | with_reducible apply bl_drewN | with_reducible apply Below.drew | (with_reducible apply bl_alloc; focus (first | (simp; done) | (simp; omega) | omega)) | (with_reducible apply bl_set; focus (first | (simp; done) | (simp; omega) | omega))))) hb
    have HBs := HB.size
    clear hb
    have h1 := Lib.hid (h.below HB)
    go_wp2_with fail
    refine (light_false _ _ _ _ _ _ _ hao hm h1.out hL).mono ?_
    rintro e w2 ⟨rfl, hb⟩
    have HB : Below w.heap.size w w2 := Below.thn (by (repeat (first | (with_reducible assumption) | (with_reducible exact Below.refl _ _) | with_reducible apply bl_drewN | with_reducible apply Below.drew | (with_reducible apply bl_alloc; focus (first | (simp; done) | (simp; omega) | omega)) | (with_reducible apply bl_set; focus (first | (simp; done) | (simp; omega) | omega))))) hb
    have HBs := HB.size
    clear hb
    go_wp2
    go_ret
    exact ⟨rfl, HB⟩
theorem keysParts_lifted (os : Os) (started : os.Started) (H : Type) (enc : TypeId × Value → H) :
    ReturnsInHanded {} Try.checked os 5 .any (Rows.keysPartsSpec.pre6 enc Try.prog Try.f5 [] false) (Rows.keysPartsSpec.post enc Try.prog Try.f5 false true false false) := by
  refine law_lift 5 Try.f5 Rows.keysPartsSpec [39, 9, 9] os started H enc Try.func5 rfl rfl Try.underlying4 (by kernel_rfl) rfl
    (ChangeSpec.witness6 (enc := enc) (C := Try.checked) false ⟨#[], #[.slice none 0 0, .string ⟨#[]⟩, .string ⟨#[]⟩], []⟩ 8 (by kernel_rfl) (by kernel_rfl) (by kernel_rfl) (by kernel_rfl))
    (fun ds hds => by match ds, hds with | [d0, d1, d2], _ => exact ⟨rfl, rfl, rfl⟩)
    (fun t ht => by
      simp only [List.mem_cons, List.mem_nil_iff, or_false] at ht
      rcases ht with rfl | rfl | rfl <;> exact ⟨by kernel_rfl, of_decide_eq_true (by kernel_rfl)⟩) ?_
  intro W base args ds p hval hA hlt hsz
  obtain ⟨v0, vs0, d0, ds0, p0, q0, e0, rfl, rfl, h0, r0⟩ := trodAll_cons hA
  obtain ⟨v1, vs1, d1, ds1, p1, q1, e1, rfl, rfl, h1, r1⟩ := trodAll_cons r0
  obtain ⟨v2, vs2, d2, ds2, p2, q2, e2, rfl, rfl, h2, r2⟩ := trodAll_cons r1
  obtain ⟨rfl, rfl, rfl⟩ := trodAll_nil r2
  subst e2
  subst e1
  obtain rfl : args = #[v0, v1, v2] := Array.ext' e0
  have hszj : ∀ (j : Nat) (t : TypeId) (d : DataW H), [39, 9, 9][j]? = some t → [d0, d1, d2][j]? = some d → (d.weights Try.prog t).all (· ≤ reachBytes) = true := fun j t d ht hd => by
    rw [List.all_eq_true] at hsz ⊢
    exact fun y hy => hsz y (DataW.weights_mem_each ht hd y hy)
  obtain ⟨a0, len, cap, rfl⟩ := okWide_slice Try.underlying39 (hval 0 39 v0 rfl rfl)
  obtain ⟨s, rfl, rfl, rfl, _⟩ := open_string Try.underlying9 (hval 1 9 v1 rfl rfl) h1
  obtain ⟨t, rfl, rfl, rfl, _⟩ := open_string Try.underlying9 (hval 2 9 v2 rfl rfl) h2
  obtain ⟨hm, b, off, l, hao, hacts⟩ := open_acts h0 (fun x hx => hlt x (by simp [hx])) (hszj 0 39 _ rfl rfl)
  exact parts_walk a0 b off len cap l s t W hao hm hacts (str_reach (hszj 1 9 _ rfl rfl)) (str_reach (hszj 2 9 _ rfl rfl))

theorem keysParts_holds : Rows.KeysPartsSaid :=
  OpenClaim.holds_of_wide 5 Try.f5 rfl rfl rfl rfl rfl rfl rfl ⟨rfl, rfl, rfl, rfl, rfl⟩ rfl rfl rfl rfl rfl (by kernel_rfl) Try.func5 (by kernel_rfl)
    (of_decide_eq_true (by kernel_rfl)) (by unfold Func.isWrapper; first | (rw [if_pos (by decide +kernel)]; kernel_rfl) | (rw [if_neg (by decide +kernel)]; exact ⟨rfl, rfl⟩))
    (fun os started H enc _ => keysParts_lifted os started H enc)
#print axioms keysParts_holds
end Go.Proofs.Ytenjijbjdfbkpaa
