/- Ever, Raw, Held, Free. -/
import Derived.Test.YtkfgbaieghlhkaaPool6
import Derived.Laws.AppendOwn
namespace Go.Proofs.Ytkfgbaieghlhkaa
open Go.RowKit

set_option maxHeartbeats 400000 in
theorem ever_any (pb B n ever : Nat) (l : List Buf) (w : World) (h : PoolAt w pb B n l ever) :
    Calls Try.prog 19 #[.pointer (some ⟨pb, 0, none⟩)] w fun e w' => e = .returned (.int .u64 ever) ∧ Below w.heap.size w w' := by
  have hd := h.hd
  have hbc := hd.cell; have hbf := hd.frozen
  go_enter Try.func19, Try.ntmps19
  go_wp2
  go_ret
  exact ⟨rfl, Below.refl _ _⟩

set_option maxHeartbeats 400000 in
theorem raw_bad (pb B n ever : Nat) (i : Int) (l : List Buf) (w : World) (h : PoolAt w pb B n l ever) (hi : i < 0 ∨ n ≤ i) :
    Calls Try.prog 18 #[.pointer (some ⟨pb, 0, none⟩), .int .i64 i] w fun e w' => e = .returned (.string ⟨#[]⟩) ∧ Below w.heap.size w w' := by
  have hd := h.hd
  have hbc := hd.cell; have hbf := hd.frozen
  clear hd
  rcases hi with h0 | h1
  · go_enter Try.func18, Try.ntmps18
    go_wp2
    go_ret
    exact ⟨rfl, Below.refl _ _⟩
  · have h0 : ¬ i < 0 := by omega
    have h2 : i ≥ n := by omega
    clear h1
    go_enter Try.func18, Try.ntmps18
    go_wp2
    go_ret
    exact ⟨rfl, Below.refl _ _⟩

/-- All bytes of a buffer. -/
def rawOf (s : ByteArray) : ByteArray := ⟨(s.data.toList ++ List.replicate (512 - s.size) 0).toArray⟩
theorem rawOf_size (s : ByteArray) (h : s.size ≤ 512) : (rawOf s).size = 512 := by
  have h2 : s.data.toList.length = s.size := rfl
  show (s.data.toList ++ List.replicate (512 - s.size) 0).toArray.size = 512
  rw [List.size_toArray, List.length_append, List.length_replicate]; omega
theorem pool_raw {w : World} {pb B n ever : Nat} {l : List Buf} (h : PoolAt w pb B n l ever) (k : Nat) (hk : k < n) : Lib.Bytes w B (k * 514) (rawOf (l.getD k default).text) := by
  intro j hj
  have hs := (h.fit k hk).1
  have hj2 : j < 512 := by rw [rawOf_size _ hs] at hj; exact hj
  have hlt : k * 514 + j < n * 514 := by omega
  rw [h.row.cell hlt, poolF_at _ _ _ (by omega), cellOf, if_pos hj2]
  generalize (l.getD k default).text = s at hs hj ⊢
  have h2 : s.data.toList.length = s.size := rfl
  have e : (rawOf s)[j] = s.data.toList.getD j 0 := by
    have e0 : (rawOf s)[j] = (s.data.toList ++ List.replicate (512 - s.size) 0)[j]'(by rw [List.length_append, List.length_replicate, h2]; omega) := rfl
    rw [e0]
    by_cases h3 : j < s.size
    · rw [List.getElem_append_left (by omega)]
      rw [List.getD, List.getElem?_eq_getElem (by omega)]; rfl
    · rw [List.getElem_append_right (by omega), List.getElem_replicate, List.getD, List.getElem?_eq_none (by omega)]; rfl
  rw [e]
  rfl

set_option maxHeartbeats 400000 in
set_option maxRecDepth 20000 in
theorem raw_ok (pb B n ever k : Nat) (l : List Buf) (s : ByteArray) (w : World) (h : PoolAt w pb B n l ever) (hk : k < n) (hse : (l.getD k default).text = s) :
    Calls Try.prog 18 #[.pointer (some ⟨pb, 0, none⟩), .int .i64 k] w fun e w' => e = .returned (.string (rawOf s)) ∧ Below w.heap.size w w' := by
  have hd := h.hd
  have hn := h.most
  have hbc := hd.cell; have hbf := hd.frozen
  clear hd
  have h0 : ¬ (k : Int) < 0 := by omega
  have h1 : ¬ (k : Int) ≥ n := by omega
  have h2 : (k : Int) < n := by omega
  have hb := pool_raw h k hk
  have hs := (h.fit k hk).1
  rw [hse] at hb hs
  clear hse
  have hcv := Lib.run_convert_whole (P := Try.prog) w 22 5 9 Try.underlying22 Try.underlying5 Try.underlying9 B (k * 514) (rawOf s) hb 512
  rw [rawOf_size s hs] at hcv
  clear hb
  go_enter Try.func18, Try.ntmps18
  go_wp2
  go_ret
  exact ⟨rfl, Below.refl _ _⟩
end Go.Proofs.Ytkfgbaieghlhkaa
