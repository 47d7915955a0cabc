/- Get. -/
import Derived.Test.YtkfgbaieghlhkaaPool3
import Derived.Deep.RegionLaw
namespace Go.Proofs.Ytkfgbaieghlhkaa
open Go.RowKit

abbrev bytesOf (s : ByteArray) : List Value := s.data.toList.map fun x => Value.int .u8 (x.toNat : Int)
theorem bytesOf_length (s : ByteArray) : (bytesOf s).length = s.size := by simp [bytesOf]
theorem bytesOf_get (s : ByteArray) (j : Nat) (h : j < s.size) : (bytesOf s)[j]?.getD default = .int .u8 (byteAt s j) := by
  have h' : j < s.data.toList.length := h
  simp [bytesOf, byteAt, List.getD]
  rw [Array.getElem?_eq_getElem (by simpa using h)]
  rfl
theorem byteAt_out (s : ByteArray) (j : Nat) (h : s.size ≤ j) : byteAt s j = 0 := by
  have h' : s.data.toList.length ≤ j := h
  simp [byteAt, List.getD]
  rw [Array.getElem?_eq_none (by simpa using h)]
  rfl
theorem fit_set {n i : Nat} {l : List Buf} {x : Buf} (hl : l.length = n) (h : ∀ k, k < n → (l.getD k default).text.size ≤ 512 ∧ ((l.getD k default).held = false → (l.getD k default).text = ⟨#[]⟩)) (hi : i < n)
    (hx : x.text.size ≤ 512 ∧ (x.held = false → x.text = ⟨#[]⟩)) : ∀ k, k < n → ((l.set i x).getD k default).text.size ≤ 512 ∧ (((l.set i x).getD k default).held = false → ((l.set i x).getD k default).text = ⟨#[]⟩) := by
  intro k hk
  by_cases e : i = k
  · subst e; rw [getD_set_self _ _ _ (by omega)]; exact hx
  · rw [getD_set_other _ _ _ _ e]; exact h k hk
theorem get_row (l : List Buf) (i n : Nat) (s : ByteArray) (hi : i < n) (hl : l.length = n) (hs : s.size ≤ 512) (hx : (l.getD i default).text = ⟨#[]⟩) (o : Nat) :
    (if o = i * 514 + 512 then Value.int .i64 (s.size : Int) else if i * 514 ≤ o ∧ o < i * 514 + (bytesOf s).length then (bytesOf s)[o - i * 514]?.getD default else if o = i * 514 + 513 then Value.bool true else poolF l o) = poolF (l.set i ⟨true, s⟩) o := by
  rw [poolF_set _ _ _ (by omega), bytesOf_length]
  by_cases h : i * 514 ≤ o ∧ o < i * 514 + 514
  · rw [if_pos h]
    obtain ⟨j, rfl⟩ : ∃ j, o = i * 514 + j := ⟨o - i * 514, by omega⟩
    have hj : j < 514 := by omega
    rw [show i * 514 + j - i * 514 = j by omega]
    unfold cellOf
    by_cases h1 : j = 512
    · rw [if_pos (by omega), if_neg (by omega), if_pos h1]
    rw [if_neg (by omega)]
    by_cases h2 : j < s.size
    · rw [if_pos (by omega), if_pos (by omega), bytesOf_get _ _ h2]
    rw [if_neg (by omega)]
    by_cases h3 : j = 513
    · rw [if_pos (by omega), if_neg (by omega), if_neg (by omega)]
    rw [if_neg (by omega), if_pos (by omega), poolF_at _ _ _ hj, cellOf, if_pos (by omega), byteAt_out s j (by omega), hx, byteAt_out _ j (Nat.zero_le _)]
  · rw [if_neg h, if_neg (by omega), if_neg (by omega), if_neg (by omega)]

set_option maxHeartbeats 400000 in
theorem get_long (pb : Nat) (s : ByteArray) (w : World) (hs : 512 < s.size) :
    Calls Try.prog 12 #[.pointer (some ⟨pb, 0, none⟩), .string s] w fun e w' => e = .returned (.tuple #[.int .i64 0, .int .i64 5]) ∧ Below w.heap.size w w' := by
  have hs1 : (512 : Int) < s.size := by omega
  go_enter Try.func12, Try.ntmps12
  go_wp2
  refine bodyPost_ret (v := .tuple #[.int .i64 0, .int .i64 5]) ?_ rfl ⟨rfl, ?_⟩
  · simp [results, Try.results12, go_sem]
  · repeat (first | (with_reducible assumption) | (with_reducible exact Below.refl _ _) | with_reducible apply bl_drewN | with_reducible apply Below.drew | (with_reducible apply bl_alloc; focus (first | (simp; done) | (simp; omega) | omega)) | (with_reducible apply bl_set; focus (first | (simp; done) | (simp; omega) | omega)))

set_option maxHeartbeats 400000 in
theorem get_none (pb B n ever : Nat) (l : List Buf) (s : ByteArray) (w : World) (h : PoolAt w pb B n l ever) (hs : s.size ≤ 512) (hall : ∀ j, j < n → (l.getD j default).held = true) :
    Calls Try.prog 12 #[.pointer (some ⟨pb, 0, none⟩), .string s] w fun e w' => e = .returned (.tuple #[.int .i64 0, .int .i64 13]) ∧ Below w.heap.size w w' := by
  have hs1 : ¬ (512 : Int) < s.size := by omega
  have hb := h.hd
  have hbc := hb.cell; have hbf := hb.frozen
  clear hb
  go_enter Try.func12, Try.ntmps12
  go_wp2_with fail
  refine (find_any pb B n ever n l _ (by assumption) (by omega) (by assumption) (by omega)).mono ?_
  rintro e w2 ⟨rfl, hb⟩
  rw [if_neg (by omega)]
  go_wp2
  refine bodyPost_ret (v := .tuple #[.int .i64 0, .int .i64 13]) ?_ rfl ⟨rfl, ?_⟩
  · simp [results, Try.results12, go_sem]
  · repeat (first | (with_reducible assumption) | (with_reducible exact Below.refl _ _) | with_reducible apply bl_drewN | with_reducible apply Below.drew | (with_reducible apply bl_alloc; focus (first | (simp; done) | (simp; omega) | omega)) | (with_reducible apply bl_set; focus (first | (simp; done) | (simp; omega) | omega)))

set_option maxHeartbeats 400000 in
set_option maxRecDepth 100000 in
theorem get_some (pb B n ever i : Nat) (l : List Buf) (s : ByteArray) (w : World) (h : PoolAt w pb B n l ever) (hs : s.size ≤ 512) (hi : i < n) (hall : ∀ j, j < i → (l.getD j default).held = true) (hat : (l.getD i default).held = false) (he : ever ≤ 1000000) :
    Calls Try.prog 12 #[.pointer (some ⟨pb, 0, none⟩), .string s] w fun e w' => e = .returned (.tuple #[.int .i64 i, .int .i64 0]) ∧ Turn pb B w w' ∧ PoolAt w' pb B n (l.set i ⟨true, s⟩) (ever + 1) := by
  have hs1 : ¬ (512 : Int) < s.size := by omega
  have hn := h.most
  have hb := h.hd
  have hbc := hb.cell; have hbf := hb.frozen
  clear hb
  go_enter Try.func12, Try.ntmps12
  go_wp2_with fail
  refine (find_any pb B n ever i l _ (by assumption) (by omega) (by assumption) (fun _ => by assumption)).mono ?_
  rintro e w2 ⟨rfl, hb⟩
  rw [if_pos (by omega)]
  have P := h.below hb
  have hc := P.held i hi
  rw [hat] at hc
  have hf := P.frozen
  have h0 : ¬ (i : Int) < 0 := by omega
  have h2 : (i : Int) < n := by omega
  have hd := P.hd
  clear hbc hbf
  have hbc := hd.cell; have hbf := hd.frozen; have hbl := hd.lt
  have hne := h.ne
  clear hd
  go_wp2_with fail
  have T3 : Turn pb B w (w2.setCell ⟨B, i * 514 + 513, none⟩ (.bool true)) := (Turn.of hb).set (p := ⟨B, i * 514 + 513, none⟩) (Or.inr rfl) (.bool true)
  have R3 := P.row.set (i * 514 + 513) (.bool true)
  have B3 : Blk (w2.setCell ⟨B, i * 514 + 513, none⟩ (.bool true)) pb _ _ := P.hd.set_ne hne
  generalize w2.setCell ⟨B, i * 514 + 513, none⟩ (.bool true) = w3 at T3 R3 B3 ⊢
  clear hbc hbf hbl hc hf P hb
  have hbc := B3.cell; have hbf := B3.frozen; have hbl := B3.lt
  have hbc4 : ∀ o, (w3.drew.setCells B (i * 514) (bytesOf s)).cell? ⟨pb, o, none⟩ = _ := fun o => (B3.drew.sets hne _ _).cell o
  have hz : ∀ w, (Go.sizeOf 5).run Try.prog w = .ok 1 w := Try.sizeOf5
  have hc5 : ∀ j, j < s.size → (w3.drew.cell? ⟨B, i * 514 + j, none⟩).isSome = true := fun j hj => by rw [R3.drew.cell (by omega)]; rfl
  have hf5 : ∀ j, j < s.size → w3.drew.frozen? ⟨B, i * 514 + j, none⟩ = false := fun j hj => R3.drew.frozen _
  have hlen : (bytesOf s).length = s.size := by simp [bytesOf]
  have R4 := rowIs_setCells (bytesOf s) (i * 514) _ _ R3.drew
  have hc6 : (w3.drew.setCells B (i * 514) (bytesOf s)).cell? ⟨B, i * 514 + 512, none⟩ = _ := R4.cell (i := i * 514 + 512) (by omega)
  have hf6 := R4.frozen (i * 514 + 512)
  go_region_law (refine step_copy_string rfl (.tmp 38) (.tmp 39) 22 9 rfl 5 Try.underlying22 hz B (i * 514) 512 512 rfl s rfl hs hc5 hf5 ?_)
  all_goals
    have T5 := ((T3.drew).sets (bytesOf s) (i * 514)).set (p := ⟨B, i * 514 + 512, none⟩) (Or.inr rfl) (.int .i64 s.size)
    have R5 := R4.set (i * 514 + 512) (.int .i64 s.size)
    have B5 := ((B3.drew).sets hne (bytesOf s) (i * 514)).set_ne (a := ⟨B, i * 514 + 512, none⟩) (v := .int .i64 s.size) hne
    generalize (w3.drew.setCells B (i * 514) (bytesOf s)).setCell ⟨B, i * 514 + 512, none⟩ (.int .i64 s.size) = w5 at T5 R5 B5 ⊢
    clear hbc hbf hbl hc6 hf6 R4 hbc4 hc5 hf5 R3 T3 B3
    have hbc := B5.cell; have hbf := B5.frozen; have hbl := B5.lt
    go_wp2
    refine bodyPost_ret (v := .tuple #[.int .i64 i, .int .i64 0]) ?_ rfl ⟨rfl, ?_, ?_⟩
    · simp [results, Try.results12, go_sem]
    · exact T5.set (Or.inl rfl) _
    · refine ⟨B5.set.conv rfl, (R5.setOther (by exact Ne.symm hne) _).congr (fun o ho => get_row l i n s hi h.len hs ((h.fit i hi).2 hat) o), by rw [List.length_set]; exact h.len, fit_set h.len h.fit hi ⟨hs, fun h => by cases h⟩, hne, h.most⟩
end Go.Proofs.Ytkfgbaieghlhkaa
