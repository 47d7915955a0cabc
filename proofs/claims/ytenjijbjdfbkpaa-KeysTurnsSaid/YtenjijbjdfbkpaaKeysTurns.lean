/-
  Proved: KeysTurns: behind any turns (at most 40, texts of at most 600 bytes) each is answered, and keys are, as the document says; so are those from any number on; on longer scripts the call returns true as well. The arguments read behind the call as before.
  Conditions: none beside the row's own.
-/
import Derived.Test.YtenjijbjdfbkpaaKeysT
namespace Go.Proofs.Ytenjijbjdfbkpaa
open Go.ChangeShapes Go.WideShapes Go.ChangeAt Go.RowKit

set_option maxHeartbeats 800000 in
set_option maxRecDepth 100000 in
theorem turns_walk (ao : Option Addr) (b off len cap n : Nat) (l : List KAct) (w : World) (hao : 0 < len → ao = some ⟨b, off, none⟩) (hm : len ≤ 140737488355328) (h : ActsAt w b off len l) :
    Calls Try.prog 4 #[.slice ao len cap, .int .u64 n] w fun e w' => e = .returned (.bool true) ∧ Below w.heap.size w w' := by
  by_cases hL : Light len l
  · go_enter Try.func4, Try.ntmps4
    go_wp2_with fail
    refine (awake_any _).mono ?_
    rintro e w1 ⟨rfl, hb⟩
    have HB : Below w.heap.size w w1 := Below.thn (by (repeat (first | (with_reducible assumption) | (with_reducible exact Below.refl _ _) | with_reducible apply bl_drewN | with_reducible apply Below.drew | (with_reducible apply bl_alloc; focus (first | (simp; done) | (simp; omega) | omega)) | (with_reducible apply bl_set; focus (first | (simp; done) | (simp; omega) | omega))))) hb
    have HBs := HB.size
    clear hb
    have h1 := Lib.hid (h.below HB)
    go_wp2_with fail
    refine (light_true _ _ _ _ _ _ _ hao h1.out hL).mono ?_
    rintro e w2 ⟨rfl, hb⟩
    have HB : Below w.heap.size w w2 := Below.thn (by (repeat (first | (with_reducible assumption) | (with_reducible exact Below.refl _ _) | with_reducible apply bl_drewN | with_reducible apply Below.drew | (with_reducible apply bl_alloc; focus (first | (simp; done) | (simp; omega) | omega)) | (with_reducible apply bl_set; focus (first | (simp; done) | (simp; omega) | omega))))) hb
    have HBs := HB.size
    clear hb
    have h2 := Lib.hid (h.below HB)
    go_wp2_with fail
    refine (of_light _ _ _ _ _ _ _ hao h2.out hL).mono ?_
    rintro e w3 ⟨a, s, rfl, ha, hs, hb⟩
    have HB : Below w.heap.size w w3 := Below.thn (by (repeat (first | (with_reducible assumption) | (with_reducible exact Below.refl _ _) | with_reducible apply bl_drewN | with_reducible apply Below.drew | (with_reducible apply bl_alloc; focus (first | (simp; done) | (simp; omega) | omega)) | (with_reducible apply bl_set; focus (first | (simp; done) | (simp; omega) | omega))))) hb
    have HBs := HB.size
    clear hb
    go_wp2_with fail
    refine (since_any _ _ _ _ (by omega) (by omega)).mono ?_
    rintro e w4 ⟨rfl, hb⟩
    have HB : Below w.heap.size w w4 := Below.thn (by (repeat (first | (with_reducible assumption) | (with_reducible exact Below.refl _ _) | with_reducible apply bl_drewN | with_reducible apply Below.drew | (with_reducible apply bl_alloc; focus (first | (simp; done) | (simp; omega) | omega)) | (with_reducible apply bl_set; focus (first | (simp; done) | (simp; omega) | omega))))) hb
    have HBs := HB.size
    have B5 := Blk.below (b := w3.heap.size) (t := 27) (by (repeat (first | (with_reducible assumption) | (with_reducible apply Blk.new'; (first | (with_reducible rfl) | (simp; done))) | with_reducible apply Blk.alloc | with_reducible apply Blk.set | ((with_reducible apply Blk.set_ne); focus (first | (simp; done) | (simp; omega))) | with_reducible apply Blk.drewN | with_reducible apply Blk.drew))) hb
    have B5c := B5.cell; have B5f := B5.frozen; have B5l := B5.lt
    have B6 := Blk.below (b := w3.heap.size+1) (t := 42) (by (repeat (first | (with_reducible assumption) | (with_reducible apply Blk.new'; (first | (with_reducible rfl) | (simp; done))) | with_reducible apply Blk.alloc | with_reducible apply Blk.set | ((with_reducible apply Blk.set_ne); focus (first | (simp; done) | (simp; omega))) | with_reducible apply Blk.drewN | with_reducible apply Blk.drew))) hb
    have B6c := B6.cell; have B6f := B6.frozen; have B6l := B6.lt
    clear hb
    go_wp2_with fail
    refine (rsince_any _ _ _ _ (by omega) (by omega)).mono ?_
    rintro e w5 ⟨rfl, hb⟩
    have HB : Below w.heap.size w w5 := Below.thn (by (repeat (first | (with_reducible assumption) | (with_reducible exact Below.refl _ _) | with_reducible apply bl_drewN | with_reducible apply Below.drew | (with_reducible apply bl_alloc; focus (first | (simp; done) | (simp; omega) | omega)) | (with_reducible apply bl_set; focus (first | (simp; done) | (simp; omega) | omega))))) hb
    have HBs := HB.size
    clear hb
    go_wp2
    go_ret
    exact ⟨rfl, HB⟩
  · go_enter Try.func4, Try.ntmps4
    go_wp2_with fail
    refine (awake_any _).mono ?_
    rintro e w1 ⟨rfl, hb⟩
    have HB : Below w.heap.size w w1 := Below.thn (by (repeat (first | (with_reducible assumption) | (with_reducible exact Below.refl _ _) | with_reducible apply bl_drewN | with_reducible apply Below.drew | (with_reducible apply bl_alloc; focus (first | (simp; done) | (simp; omega) | omega)) | (with_reducible apply bl_set; focus (first | (simp; done) | (simp; omega) | omega))))) hb
    have HBs := HB.size
    clear hb
    have h1 := Lib.hid (h.below HB)
    go_wp2_with fail
    refine (light_false _ _ _ _ _ _ _ hao hm h1.out hL).mono ?_
    rintro e w2 ⟨rfl, hb⟩
    have HB : Below w.heap.size w w2 := Below.thn (by (repeat (first | (with_reducible assumption) | (with_reducible exact Below.refl _ _) | with_reducible apply bl_drewN | with_reducible apply Below.drew | (with_reducible apply bl_alloc; focus (first | (simp; done) | (simp; omega) | omega)) | (with_reducible apply bl_set; focus (first | (simp; done) | (simp; omega) | omega))))) hb
    have HBs := HB.size
    clear hb
    go_wp2
    go_ret
    exact ⟨rfl, HB⟩

theorem keysTurns_lifted (os : Os) (started : os.Started) (H : Type) (enc : TypeId × Value → H) :
    ReturnsInHanded {} Try.checked os 4 .any (Rows.keysTurnsSpec.pre6 enc Try.prog Try.f4 [] false) (Rows.keysTurnsSpec.post enc Try.prog Try.f4 false true false false) := by
  refine law_lift 4 Try.f4 Rows.keysTurnsSpec [39, 25] os started H enc Try.func4 rfl rfl Try.underlying4 (by kernel_rfl) rfl
    (ChangeSpec.witness6 (enc := enc) (C := Try.checked) false ⟨#[], #[.slice none 0 0, .int .u64 0], []⟩ 8 (by kernel_rfl) (by kernel_rfl) (by kernel_rfl) (by kernel_rfl))
    (fun ds hds => by match ds, hds with | [d1, d2], _ => exact ⟨rfl, rfl, rfl⟩)
    (fun t ht => by
      simp only [List.mem_cons, List.mem_nil_iff, or_false] at ht
      rcases ht with rfl | rfl <;> exact ⟨by kernel_rfl, of_decide_eq_true (by kernel_rfl)⟩) ?_
  intro W base args ds p hval hA hlt hsz
  obtain ⟨v0, v1, d0, d1, p0, p1, rfl, rfl, rfl, h0, h1⟩ := trodAll_two hA
  obtain ⟨a0, len, cap, rfl⟩ := okWide_slice Try.underlying39 (hval 0 39 v0 rfl rfl)
  obtain ⟨n, rfl, rfl, rfl, wn⟩ := open_int Try.underlying25 (hval 1 25 v1 rfl rfl) h1
  have hn : 0 ≤ n := by simp only [Lit.wf, Bool.and_eq_true, decide_eq_true_eq] at wn; exact wn.1
  obtain ⟨m, rfl⟩ := Int.eq_ofNat_of_zero_le hn
  obtain ⟨hm, b, off, l, hao, hacts⟩ := open_acts h0 (fun x hx => hlt x (by simp [hx])) (by
    rw [List.all_eq_true] at hsz ⊢
    exact fun y hy => hsz y (DataW.weights_mem_each (j := 0) rfl rfl y hy))
  exact turns_walk a0 b off len cap m l W hao hm hacts

theorem keysTurns_holds : Rows.KeysTurnsSaid :=
  OpenClaim.holds_of_wide 4 Try.f4 rfl rfl rfl rfl rfl rfl rfl ⟨rfl, rfl, rfl, rfl, rfl⟩ rfl rfl rfl rfl rfl (by kernel_rfl) Try.func4 (by kernel_rfl)
    (of_decide_eq_true (by kernel_rfl)) (by unfold Func.isWrapper; first | (rw [if_pos (by decide +kernel)]; kernel_rfl) | (rw [if_neg (by decide +kernel)]; exact ⟨rfl, rfl⟩))
    (fun os started H enc _ => keysTurns_lifted os started H enc)
#print axioms keysTurns_holds
end Go.Proofs.Ytenjijbjdfbkpaa
