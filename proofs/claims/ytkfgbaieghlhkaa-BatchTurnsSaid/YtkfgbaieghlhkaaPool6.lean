/- Write. -/
import Derived.Test.YtkfgbaieghlhkaaPool5
namespace Go.Proofs.Ytkfgbaieghlhkaa
open Go.RowKit

set_option maxHeartbeats 400000 in
theorem write_bad (pb B n ever : Nat) (i : Int) (l : List Buf) (s : ByteArray) (w : World) (h : PoolAt w pb B n l ever) (hi : i < 0 ∨ n ≤ i ∨ ∃ k : Nat, i = k ∧ k < n ∧ (l.getD k default).held = false) :
    Calls Try.prog 16 #[.pointer (some ⟨pb, 0, none⟩), .int .i64 i, .string s] w fun e w' => e = .returned (.int .i64 14) ∧ Below w.heap.size w w' := by
  go_enter Try.func16, Try.ntmps16
  go_wp2_with fail
  refine (one_bad pb B n ever i l _ (by assumption) (by assumption)).mono ?_
  rintro e w1 ⟨rfl, hb⟩
  have HB : Below w.heap.size w w1 := Below.thn (by (repeat (first | (with_reducible assumption) | (with_reducible exact Below.refl _ _) | with_reducible apply bl_drewN | with_reducible apply Below.drew | (with_reducible apply bl_alloc; focus (first | (simp; done) | (simp; omega) | omega)) | (with_reducible apply bl_set; focus (first | (simp; done) | (simp; omega) | omega))))) hb
  have HBs := HB.size
  clear hb
  go_wp2
  go_ret
  exact ⟨rfl, HB⟩

set_option maxHeartbeats 400000 in
theorem write_long (pb B n ever k : Nat) (l : List Buf) (s : ByteArray) (w : World) (h : PoolAt w pb B n l ever) (hk : k < n) (hh : (l.getD k default).held = true) (hs : 512 < s.size) :
    Calls Try.prog 16 #[.pointer (some ⟨pb, 0, none⟩), .int .i64 k, .string s] w fun e w' => e = .returned (.int .i64 5) ∧ Below w.heap.size w w' := by
  have hs1 : (512 : Int) < s.size := by omega
  go_enter Try.func16, Try.ntmps16
  go_wp2_with fail
  refine (one_ok pb B n ever k l _ (by assumption) (by assumption) (by assumption)).mono ?_
  rintro e w1 ⟨rfl, hb⟩
  have HB : Below w.heap.size w w1 := Below.thn (by (repeat (first | (with_reducible assumption) | (with_reducible exact Below.refl _ _) | with_reducible apply bl_drewN | with_reducible apply Below.drew | (with_reducible apply bl_alloc; focus (first | (simp; done) | (simp; omega) | omega)) | (with_reducible apply bl_set; focus (first | (simp; done) | (simp; omega) | omega))))) hb
  have HBs := HB.size
  clear hb
  go_wp2
  go_ret
  exact ⟨rfl, HB⟩

def zeros : List Value := List.replicate 512 (.int .u8 0)
theorem zeros_length : zeros.length = 512 := by unfold zeros; exact List.length_replicate
theorem zeros_get (j : Nat) (h : j < 512) : zeros[j]?.getD default = .int .u8 0 := by
  unfold zeros
  rw [List.getElem?_replicate, if_pos h]; rfl
theorem clear_zeros (w : World) (B o : Nat) (hc : ∀ j, j < 512 → (w.cell? ⟨B, o + j, none⟩).isSome = true) (hf : ∀ j, j < 512 → w.frozen? ⟨B, o + j, none⟩ = false) :
    (Builtin.clear_ #[22] 0 #[.slice (some ⟨B, o, none⟩) 512 512]).run Try.prog w = .ok (.tuple #[]) (w.setCells B o zeros) :=
  Lib.run_clear_slice w 22 5 0 (.int .u8 0) Try.underlying22 Try.zeroValue5 rfl rfl B o 512 512 (by omega) hc hf
theorem write_row (l : List Buf) (i n : Nat) (s : ByteArray) (hi : i < n) (hl : l.length = n) (hs : s.size ≤ 512) (hh : (l.getD i default).held = true) (o : Nat) :
    (if o = i * 514 + 512 then Value.int .i64 (s.size : Int) else if i * 514 ≤ o ∧ o < i * 514 + (bytesOf s).length then (bytesOf s)[o - i * 514]?.getD default
      else if i * 514 ≤ o ∧ o < i * 514 + zeros.length then zeros[o - i * 514]?.getD default else poolF l o) = poolF (l.set i ⟨true, s⟩) o := by
  rw [poolF_set _ _ _ (by omega), bytesOf_length, zeros_length]
  have hp := fun j hj => poolF_at l i j hj
  generalize i * 514 = m at hp ⊢
  by_cases h : m ≤ o ∧ o < m + 514
  · rw [if_pos h]
    obtain ⟨j, rfl⟩ : ∃ j, o = m + j := ⟨o - m, by omega⟩
    have hj : j < 514 := by omega
    rw [show m + j - m = j by omega, hp j hj]
    unfold cellOf
    by_cases h1 : j = 512
    · rw [if_pos (by omega), if_neg (by omega), if_pos h1]
    rw [if_neg (by omega)]
    by_cases h2 : j < s.size
    · rw [if_pos (by omega), if_pos (by omega), bytesOf_get _ _ h2]
    rw [if_neg (by omega)]
    by_cases h3 : j = 513
    · subst h3
      simp
      exact hh
    have c1 : m ≤ m + j ∧ m + j < m + 512 := by omega
    have c2 : j < 512 := by omega
    rw [if_pos c1, if_pos c2, byteAt_out s j (by omega), zeros_get _ (by omega)]
  · have c1 : ¬ (m ≤ o ∧ o < m + 512) := by omega
    rw [if_neg h, if_neg (by omega), if_neg (by omega), if_neg c1]

set_option maxHeartbeats 400000 in
set_option maxRecDepth 20000 in
theorem write_ok (pb B n ever k : Nat) (l : List Buf) (s : ByteArray) (w : World) (h : PoolAt w pb B n l ever) (hk : k < n) (hh : (l.getD k default).held = true) (hs : s.size ≤ 512) :
    Calls Try.prog 16 #[.pointer (some ⟨pb, 0, none⟩), .int .i64 k, .string s] w fun e w' => e = .returned (.int .i64 0) ∧ Turn pb B w w' ∧ PoolAt w' pb B n (l.set k ⟨true, s⟩) ever := by
  have hs1 : ¬ (512 : Int) < s.size := by omega
  go_enter Try.func16, Try.ntmps16
  go_wp2_with fail
  refine (one_ok pb B n ever k l _ (by assumption) (by assumption) (by assumption)).mono ?_
  rintro e w1 ⟨rfl, hb⟩
  have HB : Below w.heap.size w w1 := Below.thn (by (repeat (first | (with_reducible assumption) | (with_reducible exact Below.refl _ _) | with_reducible apply bl_drewN | with_reducible apply Below.drew | (with_reducible apply bl_alloc; focus (first | (simp; done) | (simp; omega) | omega)) | (with_reducible apply bl_set; focus (first | (simp; done) | (simp; omega) | omega))))) hb
  have HBs := HB.size
  clear hb
  have P := h.below HB
  have hne := h.ne
  have R := P.row
  have hcl := clear_zeros w1 B (k * 514) (fun j hj => by rw [R.cell (by omega)]; rfl) (fun j _ => R.frozen _)
  have hz : ∀ w, (Go.sizeOf 5).run Try.prog w = .ok 1 w := Try.sizeOf5
  have T3 : Turn pb B w (w1.setCells B (k * 514) zeros) := Turn.sets _ _ _ (Turn.of HB)
  have R3 := rowIs_setCells zeros (k * 514) _ _ R
  have B3 := P.hd.sets hne zeros (k * 514)
  obtain ⟨w3, hw3⟩ : ∃ w3, w1.setCells B (k * 514) zeros = w3 := ⟨_, rfl⟩
  rw [hw3] at hcl T3 R3 B3
  clear hw3
  have hl5 : (bytesOf s).length = s.size := bytesOf_length s
  have hcp : (Builtin.copy_ #[22, 9] 3 #[.slice (some ⟨B, k * 514, none⟩) 512 512, .string s]).run Try.prog w3 = .ok (goInt s.size) (w3.setCells B (k * 514) (bytesOf s)) :=
    run_copy_string w3 22 9 3 5 B (k * 514) 512 512 s Try.underlying22 hz hs (fun j hj => by rw [R3.cell (by omega)]; rfl) (fun j _ => R3.frozen _)
  have T4 := Turn.sets (bytesOf s) (k * 514) _ T3
  have R4 := rowIs_setCells (bytesOf s) (k * 514) _ _ R3
  have B4 := B3.sets hne (bytesOf s) (k * 514)
  obtain ⟨w4, hw4⟩ : ∃ w4, w3.setCells B (k * 514) (bytesOf s) = w4 := ⟨_, rfl⟩
  rw [hw4] at hcp T4 R4 B4
  clear hw4 hz
  have hc4 := R4.cell (i := k * 514 + 512) (by omega)
  have hf4 := R4.frozen (k * 514 + 512)
  have R4h := Lib.hid R4
  have R3h := Lib.hid R3
  clear R4 R3 R
  go_wp2
  go_ret
  refine ⟨rfl, T4.set (p := ⟨B, k * 514 + 512, none⟩) (Or.inr rfl) _, B4.set_ne hne, (R4h.out.set (k * 514 + 512) _).congr (fun o _ => write_row l k n s hk h.len hs hh o), by rw [List.length_set]; exact h.len, fit_set h.len h.fit hk ⟨hs, fun h => by cases h⟩, h.ne, h.most⟩
end Go.Proofs.Ytkfgbaieghlhkaa
