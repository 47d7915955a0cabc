/- Package delta: checked, Empty. -/
import Derived.Test.YtgdmeaoghhkknaaDel3
namespace Go.Proofs.Ytgdmeaoghhkknaa
open Go.RowKit

theorem of_any (s t : Scr) (w : World) (hs : s.Ok) (ht : t.Ok) :
    Calls Try.prog 27 #[VV s.w s.h s.x s.y (txt s.b), VV t.w t.h t.x t.y (txt t.b)] w fun e w' => e = .returned (.string ⟨(ofL s t).toArray⟩) ∧ Below w.heap.size w w' := by
  by_cases h : t.w ≠ s.w ∨ t.h ≠ s.h
  · exact of_other s t w ht h
  · exact of_same s t w hs ht (by omega) (by omega)
set_option maxHeartbeats 4000000 in
set_option maxRecDepth 20000 in
theorem chk_none (sw sh sx sy : Int) (st d t : ByteArray) (w : World) (hP : ∀ W, Calls Try.prog 21 #[.string t] W fun e w' => e = .returned (.tuple #[VV 0 0 0 0 ⟨#[]⟩, .int .i64 4]) ∧ Below W.heap.size W w') :
    Calls Try.prog 45 #[VV sw sh sx sy st, .string d, .string t] w fun e w' => e = .returned (.tuple #[VV 0 0 0 0 ⟨#[]⟩, .int .i64 4]) ∧ Below w.heap.size w w' := by
  go_enter Try.func45, Try.ntmps45
  go_wp2_with fail
  refine (hP _).mono ?_
  rintro e wa ⟨rfl, hb⟩
  have HB : Below w.heap.size w wa := Below.thn (by (repeat (first | (with_reducible assumption) | (with_reducible exact Below.refl _ _) | with_reducible apply bl_drewN | with_reducible apply Below.drew | (with_reducible apply bl_alloc; focus (first | (simp; done) | (simp; omega) | omega)) | (with_reducible apply bl_set; focus (first | (simp; done) | (simp; omega) | omega))))) hb
  have B1 := Blk.below (b := w.heap.size) (t := 24) (by (repeat (first | (with_reducible assumption) | (with_reducible apply Blk.new'; (first | (with_reducible rfl) | (simp; done))) | with_reducible apply Blk.alloc | with_reducible apply Blk.set | ((with_reducible apply Blk.set_ne); focus (first | (simp; done) | (simp; omega))) | with_reducible apply Blk.drewN | with_reducible apply Blk.drew))) hb
  have B2 := Blk.below (b := w.heap.size + 1) (t := 24) (by (repeat (first | (with_reducible assumption) | (with_reducible apply Blk.new'; (first | (with_reducible rfl) | (simp; done))) | with_reducible apply Blk.alloc | with_reducible apply Blk.set | ((with_reducible apply Blk.set_ne); focus (first | (simp; done) | (simp; omega))) | with_reducible apply Blk.drewN | with_reducible apply Blk.drew))) hb
  have HBs := HB.size
  have B2c := B2.cell; have B2l := B2.lt; have B2f := B2.frozen
  clear hb
  go_wp2_with fail
  refine bodyPost_ret (v := .tuple #[VV 0 0 0 0 ⟨#[]⟩, .int .i64 4]) ?_ rfl ⟨rfl, ?_⟩
  · first | (simp [results, Try.results45, go_sem, B2c]; done) | simp [results, Try.results45, go_sem, B2c, B2l]
  · repeat (first | (with_reducible assumption) | (with_reducible exact Below.refl _ _) | with_reducible apply bl_drewN | with_reducible apply Below.drew | (with_reducible apply bl_alloc; focus (first | (simp; done) | (simp; omega) | omega)) | (with_reducible apply bl_set; focus (first | (simp; done) | (simp; omega) | omega)))
set_option maxHeartbeats 4000000 in
set_option maxRecDepth 20000 in
theorem chk_some (sw sh sx sy tw th tx ty : Int) (st tt d t q : ByteArray) (w : World) (hP : ∀ W, Calls Try.prog 21 #[.string t] W fun e w' => e = .returned (.tuple #[VV tw th tx ty tt, .int .i64 0]) ∧ Below W.heap.size W w')
    (hO : ∀ W, Calls Try.prog 27 #[VV sw sh sx sy st, VV tw th tx ty tt] W fun e w' => e = .returned (.string q) ∧ Below W.heap.size W w') :
    Calls Try.prog 45 #[VV sw sh sx sy st, .string d, .string t] w fun e w' => e = .returned (if q = d then .tuple #[VV tw th tx ty tt, .int .i64 0] else .tuple #[VV 0 0 0 0 ⟨#[]⟩, .int .i64 4]) ∧ Below w.heap.size w w' := by
  have HP := Lib.hid hP
  have HO := Lib.hid hO
  clear hP hO
  by_cases h : q = d
  · rw [if_pos h]
    subst h
    go_enter Try.func45, Try.ntmps45
    go_wp2_with fail
    refine (HP.out _).mono ?_
    rintro e wa ⟨rfl, hb⟩
    have HB : Below w.heap.size w wa := Below.thn (by (repeat (first | (with_reducible assumption) | (with_reducible exact Below.refl _ _) | with_reducible apply bl_drewN | with_reducible apply Below.drew | (with_reducible apply bl_alloc; focus (first | (simp; done) | (simp; omega) | omega)) | (with_reducible apply bl_set; focus (first | (simp; done) | (simp; omega) | omega))))) hb
    have B1 := Blk.below (b := w.heap.size) (t := 24) (by (repeat (first | (with_reducible assumption) | (with_reducible apply Blk.new'; (first | (with_reducible rfl) | (simp; done))) | with_reducible apply Blk.alloc | with_reducible apply Blk.set | ((with_reducible apply Blk.set_ne); focus (first | (simp; done) | (simp; omega))) | with_reducible apply Blk.drewN | with_reducible apply Blk.drew))) hb
    have B2 := Blk.below (b := w.heap.size + 1) (t := 24) (by (repeat (first | (with_reducible assumption) | (with_reducible apply Blk.new'; (first | (with_reducible rfl) | (simp; done))) | with_reducible apply Blk.alloc | with_reducible apply Blk.set | ((with_reducible apply Blk.set_ne); focus (first | (simp; done) | (simp; omega))) | with_reducible apply Blk.drewN | with_reducible apply Blk.drew))) hb
    have HBs := HB.size
    have B1c := B1.cell; have B1l := B1.lt
    clear hb
    go_wp2_with fail
    refine (HO.out _).mono ?_
    rintro e wb ⟨rfl, hb⟩
    have HB9 : Below w.heap.size w wb := Below.thn (by (repeat (first | (with_reducible assumption) | (with_reducible exact Below.refl _ _) | with_reducible apply bl_drewN | with_reducible apply Below.drew | (with_reducible apply bl_alloc; focus (first | (simp; done) | (simp; omega) | omega)) | (with_reducible apply bl_set; focus (first | (simp; done) | (simp; omega) | omega))))) hb
    have B29 := Blk.below (b := w.heap.size + 1) (t := 24) (by (repeat (first | (with_reducible assumption) | (with_reducible apply Blk.new'; (first | (with_reducible rfl) | (simp; done))) | with_reducible apply Blk.alloc | with_reducible apply Blk.set | ((with_reducible apply Blk.set_ne); focus (first | (simp; done) | (simp; omega))) | with_reducible apply Blk.drewN | with_reducible apply Blk.drew))) hb
    have B39 := Blk.below (b := wa.heap.size) (t := 24) (by (repeat (first | (with_reducible assumption) | (with_reducible apply Blk.new'; (first | (with_reducible rfl) | (simp; done))) | with_reducible apply Blk.alloc | with_reducible apply Blk.set | ((with_reducible apply Blk.set_ne); focus (first | (simp; done) | (simp; omega))) | with_reducible apply Blk.drewN | with_reducible apply Blk.drew))) hb
    have HB9s := HB9.size
    have B29c := B29.cell; have B29l := B29.lt; have B29f := B29.frozen
    have B39c := B39.cell; have B39l := B39.lt
    clear hb HB HBs B1 B2 B1c B1l
    go_wp2_with fail
    refine bodyPost_ret (v := .tuple #[VV tw th tx ty tt, .int .i64 0]) ?_ rfl ⟨rfl, ?_⟩
    · first | (simp [results, Try.results45, go_sem, B29c]; done) | simp [results, Try.results45, go_sem, B29c, B29l]
    · repeat (first | (with_reducible assumption) | (with_reducible exact Below.refl _ _) | with_reducible apply bl_drewN | with_reducible apply Below.drew | (with_reducible apply bl_alloc; focus (first | (simp; done) | (simp; omega) | omega)) | (with_reducible apply bl_set; focus (first | (simp; done) | (simp; omega) | omega)))
  · rw [if_neg h]
    have q1 : (q.toList == d.toList) = false := by
      rw [ba_toList, ba_toList, beq_eq_false_iff_ne]
      exact fun h5 => h (ba_ext h5)
    clear h
    go_enter Try.func45, Try.ntmps45
    go_wp2_with fail
    refine (HP.out _).mono ?_
    rintro e wa ⟨rfl, hb⟩
    have HB : Below w.heap.size w wa := Below.thn (by (repeat (first | (with_reducible assumption) | (with_reducible exact Below.refl _ _) | with_reducible apply bl_drewN | with_reducible apply Below.drew | (with_reducible apply bl_alloc; focus (first | (simp; done) | (simp; omega) | omega)) | (with_reducible apply bl_set; focus (first | (simp; done) | (simp; omega) | omega))))) hb
    have B1 := Blk.below (b := w.heap.size) (t := 24) (by (repeat (first | (with_reducible assumption) | (with_reducible apply Blk.new'; (first | (with_reducible rfl) | (simp; done))) | with_reducible apply Blk.alloc | with_reducible apply Blk.set | ((with_reducible apply Blk.set_ne); focus (first | (simp; done) | (simp; omega))) | with_reducible apply Blk.drewN | with_reducible apply Blk.drew))) hb
    have B2 := Blk.below (b := w.heap.size + 1) (t := 24) (by (repeat (first | (with_reducible assumption) | (with_reducible apply Blk.new'; (first | (with_reducible rfl) | (simp; done))) | with_reducible apply Blk.alloc | with_reducible apply Blk.set | ((with_reducible apply Blk.set_ne); focus (first | (simp; done) | (simp; omega))) | with_reducible apply Blk.drewN | with_reducible apply Blk.drew))) hb
    have HBs := HB.size
    have B1c := B1.cell; have B1l := B1.lt
    clear hb
    go_wp2_with fail
    refine (HO.out _).mono ?_
    rintro e wb ⟨rfl, hb⟩
    have HB9 : Below w.heap.size w wb := Below.thn (by (repeat (first | (with_reducible assumption) | (with_reducible exact Below.refl _ _) | with_reducible apply bl_drewN | with_reducible apply Below.drew | (with_reducible apply bl_alloc; focus (first | (simp; done) | (simp; omega) | omega)) | (with_reducible apply bl_set; focus (first | (simp; done) | (simp; omega) | omega))))) hb
    have B29 := Blk.below (b := w.heap.size + 1) (t := 24) (by (repeat (first | (with_reducible assumption) | (with_reducible apply Blk.new'; (first | (with_reducible rfl) | (simp; done))) | with_reducible apply Blk.alloc | with_reducible apply Blk.set | ((with_reducible apply Blk.set_ne); focus (first | (simp; done) | (simp; omega))) | with_reducible apply Blk.drewN | with_reducible apply Blk.drew))) hb
    have B39 := Blk.below (b := wa.heap.size) (t := 24) (by (repeat (first | (with_reducible assumption) | (with_reducible apply Blk.new'; (first | (with_reducible rfl) | (simp; done))) | with_reducible apply Blk.alloc | with_reducible apply Blk.set | ((with_reducible apply Blk.set_ne); focus (first | (simp; done) | (simp; omega))) | with_reducible apply Blk.drewN | with_reducible apply Blk.drew))) hb
    have HB9s := HB9.size
    have B29c := B29.cell; have B29l := B29.lt; have B29f := B29.frozen
    have B39c := B39.cell; have B39l := B39.lt
    clear hb HB HBs B1 B2 B1c B1l
    go_wp2_with fail
    refine bodyPost_ret (v := .tuple #[VV 0 0 0 0 ⟨#[]⟩, .int .i64 4]) ?_ rfl ⟨rfl, ?_⟩
    · first | (simp [results, Try.results45, go_sem, B29c]; done) | simp [results, Try.results45, go_sem, B29c, B29l]
    · repeat (first | (with_reducible assumption) | (with_reducible exact Below.refl _ _) | with_reducible apply bl_drewN | with_reducible apply Below.drew | (with_reducible apply bl_alloc; focus (first | (simp; done) | (simp; omega) | omega)) | (with_reducible apply bl_set; focus (first | (simp; done) | (simp; omega) | omega)))
theorem checked_any (s : Scr) (d t : ByteArray) (w : World) (hs : s.Ok) (ht : t.size ≤ 100000) :
    Calls Try.prog 45 #[VV s.w s.h s.x s.y (txt s.b), .string d, .string t] w fun e w' => e = .returned (pv (chkL s d.data.toList t.data.toList)) ∧ Below w.heap.size w w' := by
  have hP := fun W => parse_any t W ht
  unfold chkL
  rw [txt_list]
  cases hp : parseS t with
  | none =>
    rw [hp] at hP
    exact chk_none _ _ _ _ _ d t w hP
  | some b =>
    rw [hp] at hP
    have hok := parse_okS t b hp
    have h5 := chk_some s.w s.h s.x s.y b.w b.h b.x b.y (txt s.b) (txt b.b) d t _ w hP (fun W => of_any s b W hs hok)
    have e : ((⟨(ofL s b).toArray⟩ : ByteArray) = d) ↔ ofL s b = d.data.toList := by rw [ba_ext_iff]
    by_cases h : ofL s b = d.data.toList
    · rw [if_pos (e.2 h)] at h5
      simp only [if_pos h]
      exact h5
    · rw [if_neg (fun h6 => h (e.1 h6))] at h5
      simp only [if_neg h]
      exact h5
theorem pre_one (l : List UInt8) (c : UInt8) : Lib.hasPrefix l [c] = decide (l.head? = some c) := by
  cases l with
  | nil => rfl
  | cons a l =>
    show (c == a && true) = _
    rw [Bool.and_true, Bool.eq_iff_iff, decide_eq_true_eq, beq_iff_eq]
    constructor
    · rintro rfl; rfl
    · intro h; exact (Option.some.inj h).symm
set_option maxHeartbeats 4000000 in
set_option maxRecDepth 20000 in
theorem empty_any (d : ByteArray) (w : World) : Calls Try.prog 29 #[.string d] w fun e w' => e = .returned (.bool (decide (d.size = 3 ∧ d.data.toList.head? = some 100))) ∧ Below w.heap.size w w' := by
  by_cases h : d.size = 3
  · have h3 : (d.size : Int) = 3 := by omega
    go_enter Try.func29, Try.ntmps29
    go_wp2_with fail
    refine (Try.strings_HasPrefix d ⟨#[100]⟩ _).mono ?_
    rintro e w' ⟨rfl, rfl⟩
    go_wp2_with fail
    go_ret
    refine ⟨?_, by (repeat (first | (with_reducible assumption) | (with_reducible exact Below.refl _ _) | with_reducible apply bl_drewN | with_reducible apply Below.drew | (with_reducible apply bl_alloc; focus (first | (simp; done) | (simp; omega) | omega)) | (with_reducible apply bl_set; focus (first | (simp; done) | (simp; omega) | omega))))⟩
    have e2 : Lib.hasPrefix d.data.toList [100] = decide (d.size = 3 ∧ d.data.toList.head? = some 100) := by
      rw [pre_one]
      exact decide_eq_decide.2 ⟨fun h6 => ⟨h, h6⟩, fun h6 => h6.2⟩
    rw [← e2]
    rfl
  · have h3 : ¬ (d.size : Int) = 3 := by omega
    rw [decide_eq_false (fun h5 => h h5.1)]
    clear h
    go_enter Try.func29, Try.ntmps29
    go_wp2_with fail
    go_ret
    exact ⟨rfl, by (repeat (first | (with_reducible assumption) | (with_reducible exact Below.refl _ _) | with_reducible apply bl_drewN | with_reducible apply Below.drew | (with_reducible apply bl_alloc; focus (first | (simp; done) | (simp; omega) | omega)) | (with_reducible apply bl_set; focus (first | (simp; done) | (simp; omega) | omega))))⟩
end Go.Proofs.Ytgdmeaoghhkknaa
