/- The contracts of the document's answer for layer 13: Since, Do. -/
import Derived.Test.YtenjijbjdfbkpaaKeysR1
namespace Go.Proofs.Ytenjijbjdfbkpaa
open Go.RowKit

theorem run_field_text (a : Nat) (s : ByteArray) (w : World) : (Instr.field 42 (KV a s) 1).run Try.prog w = .ok (.string s) w := by kernel_rfl
set_option maxHeartbeats 400000 in
theorem rsince_in (a n : Nat) (s : ByteArray) (w : World) (ha : a ≤ 1000000) (hs : s.size ≤ 1000) (h1 : a ≤ n) (h2 : n ≤ a + s.size) :
    Calls Try.prog 17 #[KV a s, .int .u64 n] w fun e w' => e = .returned (.tuple #[.string (s.extract (n - a) s.size), .int .i64 0]) ∧ Below w.heap.size w w' := by
  have hx : ¬ (n : Int) < a := by omega
  have hx2 : ¬ ((a + s.size : Nat) : Int) < n := by omega
  have e1 : fgFrom a n s - a = n - a := by unfold fgFrom; omega
  have hfl := run_field_text
  go_enter Try.func17, Try.ntmps17
  go_wp2_with fail
  refine (rend_any _ _ _ ha hs).mono ?_
  rintro e w1 ⟨rfl, hb⟩
  have HB : Below w.heap.size w w1 := Below.thn (by (repeat (first | (with_reducible assumption) | (with_reducible exact Below.refl _ _) | with_reducible apply bl_drewN | with_reducible apply Below.drew | (with_reducible apply bl_alloc; focus (first | (simp; done) | (simp; omega) | omega)) | (with_reducible apply bl_set; focus (first | (simp; done) | (simp; omega) | omega))))) hb
  have HBs := HB.size
  have B0 := Blk.below (b := w.heap.size) (t := 42) (by (repeat (first | (with_reducible assumption) | (with_reducible apply Blk.new'; (first | (with_reducible rfl) | (simp; done))) | with_reducible apply Blk.alloc | with_reducible apply Blk.set | ((with_reducible apply Blk.set_ne); focus (first | (simp; done) | (simp; omega))) | with_reducible apply Blk.drewN | with_reducible apply Blk.drew))) hb
  have B0c := B0.cell; have B0f := B0.frozen; have B0l := B0.lt
  clear hb
  go_wp2_with fail
  refine (rforget_any _ _ _ _ ha hs).mono ?_
  rintro e w2 ⟨rfl, hb⟩
  have HB : Below w.heap.size w w2 := Below.thn (by (repeat (first | (with_reducible assumption) | (with_reducible exact Below.refl _ _) | with_reducible apply bl_drewN | with_reducible apply Below.drew | (with_reducible apply bl_alloc; focus (first | (simp; done) | (simp; omega) | omega)) | (with_reducible apply bl_set; focus (first | (simp; done) | (simp; omega) | omega))))) hb
  have HBs := HB.size
  clear hb
  go_wp2
  go_ret2
  exact ⟨rfl, HB⟩

set_option maxHeartbeats 400000 in
theorem rsince_out (a n : Nat) (s : ByteArray) (w : World) (ha : a ≤ 1000000) (hs : s.size ≤ 1000) (h1 : n < a ∨ a + s.size < n) :
    Calls Try.prog 17 #[KV a s, .int .u64 n] w fun e w' => e = .returned (.tuple #[.string ⟨#[]⟩, .int .i64 7]) ∧ Below w.heap.size w w' := by
  by_cases hx : n < a
  · go_enter Try.func17, Try.ntmps17
    go_wp2
    go_ret2
    exact ⟨rfl, (Below.refl _ _).alloc (Nat.le_refl _) _⟩
  · have hx1 : ¬ (n : Int) < a := by omega
    have hx2 : ((a + s.size : Nat) : Int) < n := by omega
    go_enter Try.func17, Try.ntmps17
    go_wp2_with fail
    refine (rend_any _ _ _ ha hs).mono ?_
    rintro e w1 ⟨rfl, hb⟩
    have HB : Below w.heap.size w w1 := Below.thn (by (repeat (first | (with_reducible assumption) | (with_reducible exact Below.refl _ _) | with_reducible apply bl_drewN | with_reducible apply Below.drew | (with_reducible apply bl_alloc; focus (first | (simp; done) | (simp; omega) | omega)) | (with_reducible apply bl_set; focus (first | (simp; done) | (simp; omega) | omega))))) hb
    have HBs := HB.size
    have B0 := Blk.below (b := w.heap.size) (t := 42) (by (repeat (first | (with_reducible assumption) | (with_reducible apply Blk.new'; (first | (with_reducible rfl) | (simp; done))) | with_reducible apply Blk.alloc | with_reducible apply Blk.set | ((with_reducible apply Blk.set_ne); focus (first | (simp; done) | (simp; omega))) | with_reducible apply Blk.drewN | with_reducible apply Blk.drew))) hb
    have B0c := B0.cell; have B0f := B0.frozen; have B0l := B0.lt
    clear hb
    go_wp2
    go_ret2
    exact ⟨rfl, HB⟩

/-- Do: what of so many bytes is too much. -/
def rest (n : Nat) : Nat := n - 256
set_option maxHeartbeats 800000 in
set_option maxRecDepth 100000 in
theorem rdo_any (a : Nat) (s d : ByteArray) (w : World) (ha : a ≤ 900000) (hs : s.size ≤ 1000) (hd : d.size ≤ 1000) :
    Calls Try.prog 20 #[KV a s, .string d] w fun e w' => e = .returned (.tuple #[.agg #[.int .u64 ((a + rest (s.size + d.size) : Nat) : Int), .string ((s ++ d).extract (rest (s.size + d.size)) (s.size + d.size))], .int .i64 0]) ∧ Below w.heap.size w w' := by
  obtain ⟨J, hJ⟩ : ∃ J, rest (s.size + d.size) = J := ⟨_, rfl⟩
  have hJ1 : J ≤ s.size + d.size := by unfold rest at hJ; omega
  have hJ2 : ∀ j, j < J → 256 < s.size + d.size - j := by unfold rest at hJ; omega
  have hJ3 : s.size + d.size - J ≤ 256 := by unfold rest at hJ; omega
  have hJ4 : J ≤ 2000 := by omega
  rw [hJ]
  clear hJ
  obtain ⟨u, hu⟩ : ∃ u, s ++ d = u := ⟨_, rfl⟩
  have hus : u.size = s.size + d.size := by rw [← hu, sz_app]
  have HU := Lib.hid hu
  have HS := Lib.hid hus
  have hua : u.size ≤ 2000 := by omega
  clear hu hus
  have ha1 : a ≤ 1000000 := by omega
  go_enter Try.func20, Try.ntmps20
  go_wp2_with fail
  refine (great_any _ _ _ _ ha1 hs (by omega)).mono ?_
  rintro e w1 ⟨rfl, hb⟩
  have HB : Below w.heap.size w w1 := Below.thn (by (repeat (first | (with_reducible assumption) | (with_reducible exact Below.refl _ _) | with_reducible apply bl_drewN | with_reducible apply Below.drew | (with_reducible apply bl_alloc; focus (first | (simp; done) | (simp; omega) | omega)) | (with_reducible apply bl_set; focus (first | (simp; done) | (simp; omega) | omega))))) hb
  have HBs := HB.size
  have B0 := Blk.below (b := w.heap.size) (t := 42) (by (repeat (first | (with_reducible assumption) | (with_reducible apply Blk.new'; (first | (with_reducible rfl) | (simp; done))) | with_reducible apply Blk.alloc | with_reducible apply Blk.set | ((with_reducible apply Blk.set_ne); focus (first | (simp; done) | (simp; omega))) | with_reducible apply Blk.drewN | with_reducible apply Blk.drew))) hb
  have B0c := B0.cell; have B0f := B0.frozen; have B0l := B0.lt
  have B1 := Blk.below (b := w.heap.size+1) (t := 42) (by (repeat (first | (with_reducible assumption) | (with_reducible apply Blk.new'; (first | (with_reducible rfl) | (simp; done))) | with_reducible apply Blk.alloc | with_reducible apply Blk.set | ((with_reducible apply Blk.set_ne); focus (first | (simp; done) | (simp; omega))) | with_reducible apply Blk.drewN | with_reducible apply Blk.drew))) hb
  have B1c := B1.cell; have B1f := B1.frozen; have B1l := B1.lt
  clear hb
  go_wp2_with fail
  refine wp_abs2 (w.heap.size) 42 (w.heap.size+1) 42 (n := w.heap.size) (w := w) (by (repeat (first | (with_reducible assumption) | (with_reducible exact Below.refl _ _) | with_reducible apply bl_drewN | with_reducible apply Below.drew | (with_reducible apply bl_alloc; focus (first | (simp; done) | (simp; omega) | omega)) | (with_reducible apply bl_set; focus (first | (simp; done) | (simp; omega) | omega))))) (by (repeat (first | (with_reducible assumption) | (with_reducible apply Blk.new'; (first | (with_reducible rfl) | (simp; done))) | with_reducible apply Blk.alloc | with_reducible apply Blk.set | ((with_reducible apply Blk.set_ne); focus (first | (simp; done) | (simp; omega))) | with_reducible apply Blk.drewN | with_reducible apply Blk.drew))) (by (repeat (first | (with_reducible assumption) | (with_reducible apply Blk.new'; (first | (with_reducible rfl) | (simp; done))) | with_reducible apply Blk.alloc | with_reducible apply Blk.set | ((with_reducible apply Blk.set_ne); focus (first | (simp; done) | (simp; omega))) | with_reducible apply Blk.drewN | with_reducible apply Blk.drew))) (fun W1 HB B0 B1 => ?_)
  have HBs := HB.size
  have B0c := B0.cell; have B0f := B0.frozen; have B0l := B0.lt
  have B1c := B1.cell; have B1f := B1.frozen; have B1l := B1.lt
  go_loopg [16] J (fun g t16 wr => ∃ j t, j + g = J ∧ t = u.extract j u.size ∧ Below w.heap.size w wr ∧ Blk wr w.heap.size #[.int .u64 ((a + j : Nat) : Int), .string t] 42 ∧ Blk wr (w.heap.size + 1) #[.int .u64 0, .string ⟨#[]⟩] 42)
  case atStart =>
    refine ⟨0, u, by omega, ?_, HB, ?_, B1⟩
    · apply ba_ext; rw [ba_extract, List.drop_zero, List.take_of_length_le]; simp
    · have := B0
      rw [HU.out] at this
      simpa using this
  case round =>
    clear B0 B0c B0f B0l B1 B1c B1f B1l HBs HB
    obtain ⟨j, t, hj, ht, HB, B0, B1⟩ := hrel
    have HBs := HB.size
    have B0c := B0.cell; have B0f := B0.frozen; have B0l := B0.lt; have B1c := B1.cell; have B1f := B1.frozen; have B1l := B1.lt
    have hts : t.size = u.size - j := by rw [ht, sz_ext, Nat.min_self]
    have hus := HS.out
    have HT := Lib.hid ht
    have HJ := Lib.hid hj
    have HTS := Lib.hid hts
    cases gk with
    | zero =>
      have hjJ : j = J := by omega
      have hn' : ¬ (256 : Int) < t.size := by omega
      clear hj ht hts hus
      subst hjJ
      go_wp2
      have e : (s ++ d).extract j (s.size + d.size) = t := by rw [HU.out, ← HS.out, HT.out]
      rw [e]
      refine bodyPost_ret (v := .tuple #[.agg #[.int .u64 ((a : Int) + j), .string t], .int .i64 0]) ?_ rfl ⟨rfl, ?_⟩
      · simp [results, Try.results20, go_sem, B0c, B0f, B0l, B1c, B1f, B1l]
      · repeat (first | (with_reducible assumption) | (with_reducible exact Below.refl _ _) | with_reducible apply bl_drewN | with_reducible apply Below.drew | (with_reducible apply bl_alloc; focus (first | (simp; done) | (simp; omega) | omega)) | (with_reducible apply bl_set; focus (first | (simp; done) | (simp; omega) | omega)))
    | succ g =>
      have hn' : (256 : Int) < t.size := by have := hJ2 j (by omega); omega
      have ht2 : t.size ≤ 2000 := by omega
      have hj2 : j ≤ 2000 := by omega
      clear hj ht hts hus
      go_wp2
      go_roundg g
      case rel =>
        refine ⟨j + 1, t.extract 1 t.size, by have := HJ.out; omega, by rw [HT.out, ext_ext _ _ (by have := HJ.out; have := HS.out; omega)], ?_, ?_, ?_⟩
        · repeat (first | (with_reducible assumption) | (with_reducible exact Below.refl _ _) | with_reducible apply bl_drewN | with_reducible apply Below.drew | (with_reducible apply bl_alloc; focus (first | (simp; done) | (simp; omega) | omega)) | (with_reducible apply bl_set; focus (first | (simp; done) | (simp; omega) | omega)))
        · (apply Blk.conv; focus (repeat (first | (with_reducible assumption) | (with_reducible apply Blk.new'; (first | (with_reducible rfl) | (simp; done))) | with_reducible apply Blk.alloc | with_reducible apply Blk.set | ((with_reducible apply Blk.set_ne); focus (first | (simp; done) | (simp; omega))) | with_reducible apply Blk.drewN | with_reducible apply Blk.drew)))
          (first | rfl | (simp; done) | (simp; omega))
        · (apply Blk.conv; focus (repeat (first | (with_reducible assumption) | (with_reducible apply Blk.new'; (first | (with_reducible rfl) | (simp; done))) | with_reducible apply Blk.alloc | with_reducible apply Blk.set | ((with_reducible apply Blk.set_ne); focus (first | (simp; done) | (simp; omega))) | with_reducible apply Blk.drewN | with_reducible apply Blk.drew)))
          (first | rfl | (simp; done) | (simp; omega))
      case measure => omega
end Go.Proofs.Ytenjijbjdfbkpaa
