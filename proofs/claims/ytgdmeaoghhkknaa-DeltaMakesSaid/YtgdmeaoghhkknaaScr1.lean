/- Package screen: New, shown, Cells, Cursor, Size, Same. -/
import Derived.Test.YtgdmeaoghhkknaaScrL
import Derived.Test.YtgdmeaoghhkknaaTyp2
import Derived.Test.YtgdmeaoghhkknaaPut
import Derived.Test.YtgdmeaoghhkknaaShelf
import Derived.Laws.StructEq
namespace Go.Proofs.Ytgdmeaoghhkknaa
open Go.RowKit

abbrev VV (w h x y : Int) (t : ByteArray) : Value := .agg #[.int .i64 w, .int .i64 h, .int .i64 x, .int .i64 y, .string t]
def txt (l : List UInt8) : ByteArray := ⟨l.toArray⟩
theorem txt_size (l : List UInt8) : (txt l).size = l.length := by show l.toArray.size = _; simp
abbrev VSc (s : Scr) : Value := VV s.w s.h s.x s.y (txt s.b)

theorem shown_any (c : UInt8) (w : World) : Calls Try.prog 34 #[.int .u8 (c.toNat : Nat)] w fun e w' => e = .returned (.bool (decide (32 ≤ c.toNat ∧ c.toNat ≤ 126))) ∧ Below w.heap.size w w' := by
  by_cases h1 : 32 ≤ c.toNat
  · have g1 : (32 : Int) ≤ (c.toNat : Nat) := by omega
    by_cases h2 : c.toNat ≤ 126
    · have g2 : ((c.toNat : Nat) : Int) ≤ 126 := by omega
      go_enter Try.func34, Try.ntmps34
      go_wp2
      go_ret
      exact ⟨by simp [h1, h2], Below.refl _ _⟩
    · have g2 : ¬ ((c.toNat : Nat) : Int) ≤ 126 := by omega
      go_enter Try.func34, Try.ntmps34
      go_wp2
      go_ret
      exact ⟨by simp [h1, h2], Below.refl _ _⟩
  · have g1 : ¬ (32 : Int) ≤ (c.toNat : Nat) := by omega
    go_enter Try.func34, Try.ntmps34
    go_wp2
    go_ret
    exact ⟨by simp [h1], Below.refl _ _⟩
theorem rep_len (n : Nat) : Lib.repeatL [(32 : UInt8)] n = List.replicate n 32 := by
  induction n with
  | zero => rfl
  | succ n ih => simp [Lib.repeatL, ih, List.replicate_succ]
theorem rep_any (n : Nat) (w : World) (hn : n ≤ 100000) : Calls Try.prog 33 #[.string ⟨#[32]⟩, .int .i64 n] w fun e w' => e = .returned (.string (txt (List.replicate n 32))) ∧ Below w.heap.size w w' := by
  have := Try.strings_Repeat ⟨#[32]⟩ n w (by omega) (by show 1 * n ≤ _; omega)
  rw [show (⟨#[32]⟩ : ByteArray).data.toList = [32] from rfl, rep_len] at this
  exact this
theorem wh_small {w h : Nat} (h1 : w ≤ 80) (h2 : h ≤ 24) : w * h ≤ 1920 := Nat.mul_le_mul h1 h2
set_option maxHeartbeats 1000000 in
set_option maxRecDepth 20000 in
theorem new_any (cw ch : Nat) (w : World) (w1 : 1 ≤ cw) (w2 : cw ≤ 80) (h1 : 1 ≤ ch) (h2 : ch ≤ 24) :
    Calls Try.prog 12 #[.int .i64 cw, .int .i64 ch] w fun e w' => e = .returned (.tuple #[VSc (newS cw ch), .int .i64 0]) ∧ Below w.heap.size w w' := by
  have g1 : ¬ (cw : Int) < 1 := by omega
  have g2 : ¬ (80 : Int) < cw := by omega
  have g3 : ¬ (ch : Int) < 1 := by omega
  have g4 : ¬ (24 : Int) < ch := by omega
  obtain ⟨m, hm⟩ : ∃ m, cw * ch = m := ⟨_, rfl⟩
  have hmm : (cw : Int) * (ch : Int) = (m : Int) := by rw [← hm]; simp
  have hml : m ≤ 1920 := by rw [← hm]; exact wh_small w2 h2
  unfold newS
  rw [hm]
  clear hm
  go_enter Try.func12, Try.ntmps12
  go_wp2_with fail
  refine (rep_any m _ (by omega)).mono ?_
  rintro e w2 ⟨rfl, hb⟩
  have HB : Below w.heap.size w w2 := Below.thn (by (repeat (first | (with_reducible assumption) | (with_reducible exact Below.refl _ _) | with_reducible apply bl_drewN | with_reducible apply Below.drew | (with_reducible apply bl_alloc; focus (first | (simp; done) | (simp; omega) | omega)) | (with_reducible apply bl_set; focus (first | (simp; done) | (simp; omega) | omega))))) hb
  have HBs := HB.size
  have B0 := Blk.below (b := w.heap.size) (t := 24) (by (repeat (first | (with_reducible assumption) | (with_reducible apply Blk.new'; (first | (with_reducible rfl) | (simp; done))) | with_reducible apply Blk.alloc | with_reducible apply Blk.set | ((with_reducible apply Blk.set_ne); focus (first | (simp; done) | (simp; omega))) | with_reducible apply Blk.drewN | with_reducible apply Blk.drew))) hb
  have B0c := B0.cell; have B0f := B0.frozen; have B0l := B0.lt
  clear hb
  go_wp2
  refine bodyPost_ret (v := .tuple #[VV cw ch 0 0 (txt (List.replicate m 32)), .int .i64 0]) ?_ rfl ⟨rfl, ?_⟩
  · first | (simp [results, Try.results12, go_sem, B0c]; done) | simp [results, Try.results12, go_sem, B0c, B0l]
  · repeat (first | (with_reducible assumption) | (with_reducible exact Below.refl _ _) | with_reducible apply bl_drewN | with_reducible apply Below.drew | (with_reducible apply bl_alloc; focus (first | (simp; done) | (simp; omega) | omega)) | (with_reducible apply bl_set; focus (first | (simp; done) | (simp; omega) | omega)))
set_option maxHeartbeats 1000000 in
set_option maxRecDepth 20000 in
theorem new_bad (cw ch : Int) (w : World) (h : cw < 1 ∨ 80 < cw ∨ ch < 1 ∨ 24 < ch) :
    Calls Try.prog 12 #[.int .i64 cw, .int .i64 ch] w fun e w' => e = .returned (.tuple #[VV 0 0 0 0 ⟨#[]⟩, .int .i64 7]) ∧ Below w.heap.size w w' := by
  by_cases h1 : cw < 1
  · go_enter Try.func12, Try.ntmps12
    go_wp2
    refine bodyPost_ret (v := .tuple #[VV 0 0 0 0 ⟨#[]⟩, .int .i64 7]) ?_ rfl ⟨rfl, ?_⟩
    · simp [results, Try.results12, go_sem]
    · repeat (first | (with_reducible assumption) | (with_reducible exact Below.refl _ _) | with_reducible apply bl_drewN | with_reducible apply Below.drew | (with_reducible apply bl_alloc; focus (first | (simp; done) | (simp; omega) | omega)) | (with_reducible apply bl_set; focus (first | (simp; done) | (simp; omega) | omega)))
  by_cases h2 : 80 < cw
  · go_enter Try.func12, Try.ntmps12
    go_wp2
    refine bodyPost_ret (v := .tuple #[VV 0 0 0 0 ⟨#[]⟩, .int .i64 7]) ?_ rfl ⟨rfl, ?_⟩
    · simp [results, Try.results12, go_sem]
    · repeat (first | (with_reducible assumption) | (with_reducible exact Below.refl _ _) | with_reducible apply bl_drewN | with_reducible apply Below.drew | (with_reducible apply bl_alloc; focus (first | (simp; done) | (simp; omega) | omega)) | (with_reducible apply bl_set; focus (first | (simp; done) | (simp; omega) | omega)))
  by_cases h3 : ch < 1
  · go_enter Try.func12, Try.ntmps12
    go_wp2
    refine bodyPost_ret (v := .tuple #[VV 0 0 0 0 ⟨#[]⟩, .int .i64 7]) ?_ rfl ⟨rfl, ?_⟩
    · simp [results, Try.results12, go_sem]
    · repeat (first | (with_reducible assumption) | (with_reducible exact Below.refl _ _) | with_reducible apply bl_drewN | with_reducible apply Below.drew | (with_reducible apply bl_alloc; focus (first | (simp; done) | (simp; omega) | omega)) | (with_reducible apply bl_set; focus (first | (simp; done) | (simp; omega) | omega)))
  have h4 : 24 < ch := by omega
  go_enter Try.func12, Try.ntmps12
  go_wp2
  refine bodyPost_ret (v := .tuple #[VV 0 0 0 0 ⟨#[]⟩, .int .i64 7]) ?_ rfl ⟨rfl, ?_⟩
  · simp [results, Try.results12, go_sem]
  · repeat (first | (with_reducible assumption) | (with_reducible exact Below.refl _ _) | with_reducible apply bl_drewN | with_reducible apply Below.drew | (with_reducible apply bl_alloc; focus (first | (simp; done) | (simp; omega) | omega)) | (with_reducible apply bl_set; focus (first | (simp; done) | (simp; omega) | omega)))
set_option maxRecDepth 20000 in
theorem cells_any (cw ch x y : Int) (t : ByteArray) (w : World) : Calls Try.prog 13 #[VV cw ch x y t] w fun e w' => e = .returned (.string t) ∧ Below w.heap.size w w' := by
  go_enter Try.func13, Try.ntmps13
  go_wp2
  go_ret
  exact ⟨rfl, by (repeat (first | (with_reducible assumption) | (with_reducible exact Below.refl _ _) | with_reducible apply bl_drewN | with_reducible apply Below.drew | (with_reducible apply bl_alloc; focus (first | (simp; done) | (simp; omega) | omega)) | (with_reducible apply bl_set; focus (first | (simp; done) | (simp; omega) | omega))))⟩
set_option maxRecDepth 20000 in
theorem cursor_any (cw ch x y : Int) (t : ByteArray) (w : World) : Calls Try.prog 15 #[VV cw ch x y t] w fun e w' => e = .returned (.tuple #[.int .i64 x, .int .i64 y]) ∧ Below w.heap.size w w' := by
  go_enter Try.func15, Try.ntmps15
  go_wp2_with fail
  go_quiet (fail)
  go_wp2_with fail
  refine bodyPost_ret (v := .tuple #[.int .i64 x, .int .i64 y]) ?_ rfl ⟨rfl, ?_⟩
  · simp [results, Try.results15, go_sem]
  · repeat (first | (with_reducible assumption) | (with_reducible exact Below.refl _ _) | with_reducible apply bl_drewN | with_reducible apply Below.drew | (with_reducible apply bl_alloc; focus (first | (simp; done) | (simp; omega) | omega)) | (with_reducible apply bl_set; focus (first | (simp; done) | (simp; omega) | omega)))
set_option maxRecDepth 20000 in
theorem size_any (cw ch x y : Int) (t : ByteArray) (w : World) : Calls Try.prog 37 #[VV cw ch x y t] w fun e w' => e = .returned (.tuple #[.int .i64 cw, .int .i64 ch]) ∧ Below w.heap.size w w' := by
  go_enter Try.func37, Try.ntmps37
  go_wp2_with fail
  go_quiet (fail)
  go_wp2_with fail
  refine bodyPost_ret (v := .tuple #[.int .i64 cw, .int .i64 ch]) ?_ rfl ⟨rfl, ?_⟩
  · simp [results, Try.results37, go_sem]
  · repeat (first | (with_reducible assumption) | (with_reducible exact Below.refl _ _) | with_reducible apply bl_drewN | with_reducible apply Below.drew | (with_reducible apply bl_alloc; focus (first | (simp; done) | (simp; omega) | omega)) | (with_reducible apply bl_set; focus (first | (simp; done) | (simp; omega) | omega)))
theorem run_eq24 (a b c d a' b' c' d' : Int) (s s' : ByteArray) (w : World) : (binOp .eql 24 (VV a b c d s) (VV a' b' c' d' s')).run Try.prog w = .ok (.bool (decide (a = a' ∧ b = b' ∧ c = c' ∧ d = d' ∧ s = s'))) w := by
  have hb : (s.toList = s'.toList) ↔ s = s' := by rw [ba_toList, ba_toList]; exact ba_ext_iff.symm
  simp [go_sem, Program.fieldsOf, Try.underlying24, Try.underlying3, Try.underlying9, hb]
  by_cases h1 : a = a' <;> by_cases h2 : b = b' <;> by_cases h3 : c = c' <;> by_cases h4 : d = d' <;> by_cases h5 : s = s' <;> simp [h1, h2, h3, h4, h5]
set_option maxRecDepth 20000 in
theorem same_any (a b c d a' b' c' d' : Int) (s s' : ByteArray) (w : World) : Calls Try.prog 16 #[VV a b c d s, VV a' b' c' d' s'] w fun e w' => e = .returned (.bool (decide (a = a' ∧ b = b' ∧ c = c' ∧ d = d' ∧ s = s'))) ∧ Below w.heap.size w w' := by
  have hq := run_eq24 a b c d a' b' c' d' s s'
  obtain ⟨q, hqe⟩ : ∃ q, decide (a = a' ∧ b = b' ∧ c = c' ∧ d = d' ∧ s = s') = q := ⟨_, rfl⟩
  rw [hqe] at hq ⊢
  clear hqe
  go_enter Try.func16, Try.ntmps16
  go_wp2
  go_ret
  exact ⟨rfl, by (repeat (first | (with_reducible assumption) | (with_reducible exact Below.refl _ _) | with_reducible apply bl_drewN | with_reducible apply Below.drew | (with_reducible apply bl_alloc; focus (first | (simp; done) | (simp; omega) | omega)) | (with_reducible apply bl_set; focus (first | (simp; done) | (simp; omega) | omega))))⟩
end Go.Proofs.Ytgdmeaoghhkknaa
