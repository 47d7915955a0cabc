/- The document's pool: what memory holds of it; its functions. -/
import Derived.Test.YtkfgbaieghlhkaaPoolFillsW
namespace Go.Proofs.Ytkfgbaieghlhkaa
open Go.RowKit

def refF (l : List Buf) (o : Nat) : Value := if o % 2 = 0 then .bool (l.getD (o / 2) default).held else .string (l.getD (o / 2) default).text
def RefAt (w : World) (rb n : Nat) (l : List Buf) : Prop := w.rowIs rb 63 (n * 2) (refF l)
section
variable {w w' : World} {rb n : Nat} {l : List Buf}
theorem RefAt.held (h : RefAt w rb n l) (i : Nat) (hi : i < n) : w.cell? ⟨rb, i * 2, none⟩ = some (.bool (l.getD i default).held) := by
  rw [World.rowIs.cell h (by omega), refF, if_pos (by omega), show i * 2 / 2 = i by omega]
theorem RefAt.text (h : RefAt w rb n l) (i : Nat) (hi : i < n) : w.cell? ⟨rb, i * 2 + 1, none⟩ = some (.string (l.getD i default).text) := by
  rw [World.rowIs.cell h (by omega), refF, if_neg (by omega), show (i * 2 + 1) / 2 = i by omega]
theorem RefAt.frozen (h : RefAt w rb n l) (o : Nat) : w.frozen? ⟨rb, o, none⟩ = false := World.rowIs.frozen h o
theorem RefAt.lt (h : RefAt w rb n l) : rb < w.heap.size := World.rowIs.lt h
theorem RefAt.below (h : RefAt w rb n l) (g : Below w.heap.size w w') : RefAt w' rb n l := World.rowIs.of_block h (g.block rb h.lt)
theorem RefAt.turn (h : RefAt w rb n l) {pb B : Nat} (g : Turn pb B w w') (h1 : rb ≠ pb) (h2 : rb ≠ B) : RefAt w' rb n l := World.rowIs.of_block h (g.block rb h.lt h1 h2)
end

def ownE (l : List Buf) (n : Nat) (i : Int) : Prop := i < 0 ∨ n ≤ i ∨ ∃ k : Nat, i = k ∧ k < n ∧ (l.getD k default).held = false

set_option maxHeartbeats 400000 in
theorem owner_ok (rb n k : Nat) (l : List Buf) (w : World) (h : RefAt w rb n l) (hk : k < n) (hh : (l.getD k default).held = true) :
    Calls Try.prog 27 #[.slice (some ⟨rb, 0, none⟩) n n, .int .i64 k] w fun e w' => e = .returned (.int .i64 0) ∧ Below w.heap.size w w' := by
  have hc := h.held k hk
  rw [hh] at hc
  have h0 : ¬ (k : Int) < 0 := by omega
  have h1 : ¬ (k : Int) ≥ n := by omega
  have h2 : (k : Int) < n := by omega
  go_enter Try.func27, Try.ntmps27
  go_wp2
  go_ret
  exact ⟨rfl, Below.refl _ _⟩
set_option maxHeartbeats 400000 in
theorem owner_bad (rb n : Nat) (i : Int) (l : List Buf) (w : World) (h : RefAt w rb n l) (hi : i < 0 ∨ n ≤ i ∨ ∃ k : Nat, i = k ∧ k < n ∧ (l.getD k default).held = false) :
    Calls Try.prog 27 #[.slice (some ⟨rb, 0, none⟩) n n, .int .i64 i] w fun e w' => e = .returned (.int .i64 14) ∧ Below w.heap.size w w' := by
  rcases hi with h0 | h1 | ⟨k, rfl, hk, hh⟩
  · go_enter Try.func27, Try.ntmps27
    go_wp2
    go_ret
    exact ⟨rfl, Below.refl _ _⟩
  · have h0 : ¬ i < 0 := by omega
    have h2 : i ≥ n := by omega
    clear h1
    go_enter Try.func27, Try.ntmps27
    go_wp2
    go_ret
    exact ⟨rfl, Below.refl _ _⟩
  · have hc := h.held k hk
    rw [hh] at hc
    have h0 : ¬ (k : Int) < 0 := by omega
    have h1 : ¬ (k : Int) ≥ n := by omega
    have h2 : (k : Int) < n := by omega
    go_enter Try.func27, Try.ntmps27
    go_wp2
    go_ret
    exact ⟨rfl, Below.refl _ _⟩

set_option maxHeartbeats 400000 in
theorem rget_long (rb n : Nat) (s : ByteArray) (w : World) (hs : 512 < s.size) :
    Calls Try.prog 28 #[.slice (some ⟨rb, 0, none⟩) n n, .string s] w fun e w' => e = .returned (.tuple #[.int .i64 0, .int .i64 5]) ∧ Below w.heap.size w w' := by
  have hs1 : (512 : Int) < s.size := by omega
  go_enter Try.func28, Try.ntmps28
  go_wp2
  refine bodyPost_ret (v := .tuple #[.int .i64 0, .int .i64 5]) ?_ rfl ⟨rfl, ?_⟩
  · simp [results, Try.results28, go_sem]
  · repeat (first | (with_reducible assumption) | (with_reducible exact Below.refl _ _) | with_reducible apply bl_drewN | with_reducible apply Below.drew | (with_reducible apply bl_alloc; focus (first | (simp; done) | (simp; omega) | omega)) | (with_reducible apply bl_set; focus (first | (simp; done) | (simp; omega) | omega)))

set_option maxHeartbeats 1000000 in
set_option maxRecDepth 20000 in
theorem rget_any (rb n i : Nat) (l : List Buf) (s : ByteArray) (w : World) (h : RefAt w rb n l) (hn : n ≤ 256) (hs : s.size ≤ 512) (hi : i ≤ n) (hall : ∀ j, j < i → (l.getD j default).held = true) (hat : i < n → (l.getD i default).held = false) :
    Calls Try.prog 28 #[.slice (some ⟨rb, 0, none⟩) n n, .string s] w fun e w' => e = .returned (.tuple #[.int .i64 (if i < n then (i : Int) else 0), .int .i64 (if i < n then 0 else 13)]) ∧ Below w.heap.size w w' := by
  have hs1 : ¬ (512 : Int) < s.size := by omega
  go_enter Try.func28, Try.ntmps28
  go_wp2_with fail
  go_loopg [13] n (fun g t13 wr => ∃ k : Nat, t13 = .int .i64 k ∧ k + g = n ∧ k ≤ i ∧ Below w.heap.size w wr)
  case atStart => exact ⟨0, rfl, by omega, by omega, Below.refl _ _⟩
  case round =>
    obtain ⟨k, rfl, hk, hki, HB⟩ := hrel
    have HBs := HB.size
    have R := h.below HB
    have HK := Lib.hid hk
    cases gk with
    | zero =>
      have hk' : ¬ (k : Int) < n := by omega
      have hin : ¬ i < n := by omega
      clear hk
      go_wp2
      refine bodyPost_ret (v := .tuple #[.int .i64 0, .int .i64 13]) ?_ rfl ⟨?_, HB⟩
      · simp [results, Try.results28, go_sem]
      · rfl
    | succ g =>
      have hk' : (k : Int) < n := by omega
      have hkn : k < n := by omega
      clear hk
      have hc1 := R.held k hkn
      have hc2 := R.text k hkn
      by_cases hki2 : k < i
      · rw [hall k hki2] at hc1
        clear R
        go_wp2_with fail
        go_roundg g
        case rel => exact ⟨k + 1, by simp, by have := HK.out; omega, by omega, by (repeat (first | (with_reducible assumption) | (with_reducible exact Below.refl _ _) | with_reducible apply bl_drewN | with_reducible apply Below.drew | (with_reducible apply bl_alloc; focus (first | (simp; done) | (simp; omega) | omega)) | (with_reducible apply bl_set; focus (first | (simp; done) | (simp; omega) | omega))))⟩
        case measure => omega
      · have hik : k = i := by omega
        subst hik
        rw [hat (by omega)] at hc1
        clear R
        go_wp2
        refine bodyPost_ret (v := .tuple #[.int .i64 k, .int .i64 0]) ?_ rfl ⟨?_, ?_⟩
        · simp [results, Try.results28, go_sem]
        · rfl
        · repeat (first | (with_reducible assumption) | (with_reducible exact Below.refl _ _) | with_reducible apply bl_drewN | with_reducible apply Below.drew | (with_reducible apply bl_alloc; focus (first | (simp; done) | (simp; omega) | omega)) | (with_reducible apply bl_set; focus (first | (simp; done) | (simp; omega) | omega)))

set_option maxHeartbeats 1000000 in
set_option maxRecDepth 20000 in
theorem rfree_any (rb n : Nat) (l : List Buf) (w : World) (h : RefAt w rb n l) (hn : n ≤ 256) :
    Calls Try.prog 29 #[.slice (some ⟨rb, 0, none⟩) n n] w fun e w' => e = .returned (.int .i64 (freeN l n)) ∧ Below w.heap.size w w' := by
  go_enter Try.func29, Try.ntmps29
  go_wp2_with fail
  go_loopg [3, 8] n (fun g t3 t8 wr => ∃ k f : Nat, t8 = .int .i64 k ∧ t3 = .int .i64 f ∧ k + g = n ∧ f + (heldL l k).length = k ∧ Below w.heap.size w wr)
  case atStart => exact ⟨0, 0, rfl, rfl, by omega, rfl, Below.refl _ _⟩
  case round =>
    obtain ⟨k, f, rfl, rfl, hk, hf, HB⟩ := hrel
    have HBs := HB.size
    have R := h.below HB
    have HK := Lib.hid hk
    have HF := Lib.hid hf
    have hfk : f ≤ k := by omega
    clear hf
    cases gk with
    | zero =>
      have hk' : ¬ (k : Int) < n := by omega
      have hkn : k = n := by omega
      clear hk
      have hfe : f = freeN l n := by unfold freeN; rw [← hkn]; have := HF.out; omega
      go_wp2
      go_ret
      exact ⟨rfl, HB⟩
    | succ g =>
      have hk' : (k : Int) < n := by omega
      have hkn : k < n := by omega
      clear hk
      have hc1 := R.held k hkn
      have hc2 := R.text k hkn
      cases hh : (l.getD k default).held with
      | true =>
        rw [hh] at hc1
        have H2 := Lib.hid (heldL_hit l k hh)
        clear hh R
        go_wp2_with fail
        go_roundg g
        case rel => exact ⟨k + 1, f, by simp, rfl, by have := HK.out; omega, by rw [H2.out, List.length_append]; have := HF.out; simp; omega, by (repeat (first | (with_reducible assumption) | (with_reducible exact Below.refl _ _) | with_reducible apply bl_drewN | with_reducible apply Below.drew | (with_reducible apply bl_alloc; focus (first | (simp; done) | (simp; omega) | omega)) | (with_reducible apply bl_set; focus (first | (simp; done) | (simp; omega) | omega))))⟩
        case measure => omega
      | false =>
        rw [hh] at hc1
        have H2 := Lib.hid (heldL_miss l k hh)
        clear hh R
        go_wp2_with fail
        go_roundg g
        case rel => exact ⟨k + 1, f + 1, by simp, by simp, by have := HK.out; omega, by rw [H2.out]; have := HF.out; omega, by (repeat (first | (with_reducible assumption) | (with_reducible exact Below.refl _ _) | with_reducible apply bl_drewN | with_reducible apply Below.drew | (with_reducible apply bl_alloc; focus (first | (simp; done) | (simp; omega) | omega)) | (with_reducible apply bl_set; focus (first | (simp; done) | (simp; omega) | omega))))⟩
        case measure => omega
end Go.Proofs.Ytkfgbaieghlhkaa
