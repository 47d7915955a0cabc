/- Read, Put, Write, Ever, Raw. -/
import Derived.Test.YtkfgbaieghlhkaaPool4
import Derived.Lib.SlBytesRow
import Derived.Lib.SliceRun
import Derived.Deep.WholeRow
namespace Go.Proofs.Ytkfgbaieghlhkaa
open Go.RowKit

theorem pool_bytes {w : World} {pb B n ever : Nat} {l : List Buf} (h : PoolAt w pb B n l ever) (k : Nat) (hk : k < n) : Lib.Bytes w B (k * 514) (l.getD k default).text := by
  intro j hj
  have := (h.fit k hk).1
  rw [h.row.cell (by omega), poolF_at _ _ _ (by omega), cellOf, if_pos (by omega), byteAt]
  have h' : j < (l.getD k default).text.data.toList.length := hj
  simp [List.getD]
  rw [Array.getElem?_eq_getElem (by simpa [List.getD] using hj)]
  rfl

set_option maxHeartbeats 400000 in
theorem read_bad (pb B n ever : Nat) (i : Int) (l : List Buf) (w : World) (h : PoolAt w pb B n l ever) (hi : i < 0 ∨ n ≤ i ∨ ∃ k : Nat, i = k ∧ k < n ∧ (l.getD k default).held = false) :
    Calls Try.prog 15 #[.pointer (some ⟨pb, 0, none⟩), .int .i64 i] w fun e w' => e = .returned (.tuple #[.string ⟨#[]⟩, .int .i64 14]) ∧ Below w.heap.size w w' := by
  go_enter Try.func15, Try.ntmps15
  go_wp2_with fail
  refine (one_bad pb B n ever i l _ (by assumption) (by assumption)).mono ?_
  rintro e w1 ⟨rfl, hb⟩
  have HB : Below w.heap.size w w1 := Below.thn (by (repeat (first | (with_reducible assumption) | (with_reducible exact Below.refl _ _) | with_reducible apply bl_drewN | with_reducible apply Below.drew | (with_reducible apply bl_alloc; focus (first | (simp; done) | (simp; omega) | omega)) | (with_reducible apply bl_set; focus (first | (simp; done) | (simp; omega) | omega))))) hb
  have HBs := HB.size
  clear hb
  go_wp2
  refine bodyPost_ret (v := .tuple #[.string ⟨#[]⟩, .int .i64 14]) ?_ rfl ⟨rfl, ?_⟩
  · simp [results, Try.results15, go_sem]
  · repeat (first | (with_reducible assumption) | (with_reducible exact Below.refl _ _) | with_reducible apply bl_drewN | with_reducible apply Below.drew | (with_reducible apply bl_alloc; focus (first | (simp; done) | (simp; omega) | omega)) | (with_reducible apply bl_set; focus (first | (simp; done) | (simp; omega) | omega)))

set_option maxHeartbeats 400000 in
set_option maxRecDepth 20000 in
theorem read_ok (pb B n ever k : Nat) (l : List Buf) (s : ByteArray) (w : World) (h : PoolAt w pb B n l ever) (hk : k < n) (hh : (l.getD k default).held = true) (hse : (l.getD k default).text = s) :
    Calls Try.prog 15 #[.pointer (some ⟨pb, 0, none⟩), .int .i64 k] w fun e w' => e = .returned (.tuple #[.string s, .int .i64 0]) ∧ Below w.heap.size w w' := by
  go_enter Try.func15, Try.ntmps15
  go_wp2_with fail
  refine (one_ok pb B n ever k l _ (by assumption) (by assumption) (by assumption)).mono ?_
  rintro e w1 ⟨rfl, hb⟩
  have HB : Below w.heap.size w w1 := Below.thn (by (repeat (first | (with_reducible assumption) | (with_reducible exact Below.refl _ _) | with_reducible apply bl_drewN | with_reducible apply Below.drew | (with_reducible apply bl_alloc; focus (first | (simp; done) | (simp; omega) | omega)) | (with_reducible apply bl_set; focus (first | (simp; done) | (simp; omega) | omega))))) hb
  have HBs := HB.size
  clear hb
  have P := h.below HB
  have hs := P.size k hk
  have ht := (h.fit k hk).1
  have hb := pool_bytes P k hk
  rw [hse] at hs ht hb
  clear hse
  have h5 : (s.size : Int) ≤ 512 := by omega
  have hcv := fun q => Lib.run_convert_whole (P := Try.prog) (w1.drewN q) 22 5 9 Try.underlying22 Try.underlying5 Try.underlying9 B (k * 514) s (hb.drewN q) 512
  go_wp2_with fail
  go_quiet (fail)
  go_wp2
  refine bodyPost_ret (v := .tuple #[.string s, .int .i64 0]) ?_ rfl ⟨rfl, ?_⟩
  · simp [results, Try.results15, go_sem]
  · repeat (first | (with_reducible assumption) | (with_reducible exact Below.refl _ _) | with_reducible apply bl_drewN | with_reducible apply Below.drew | (with_reducible apply bl_alloc; focus (first | (simp; done) | (simp; omega) | omega)) | (with_reducible apply bl_set; focus (first | (simp; done) | (simp; omega) | omega)))

/-- A buffer as it is when free. -/
def zbuf : Array Value := ((List.range 514).map (cellOf ⟨false, ⟨#[]⟩⟩)).toArray
theorem zbuf_size : zbuf.size = 514 := by simp [zbuf]
theorem zbuf_info : (Try.prog.info? 81).map (fun i => (i.zero, i.size)) = some (some (.agg zbuf), 514) := by kernel_rfl
theorem zbuf_zero : ∀ w, (zeroValue 81).run Try.prog w = .ok (.agg zbuf) w := (zero_of_info zbuf_info).1
theorem zbuf_one : zbuf.all (·.oneCell') = true := by kernel_rfl
theorem zbuf_get (j : Nat) (h : j < 514) : zbuf.toList[j]?.getD default = cellOf ⟨false, ⟨#[]⟩⟩ j := by simp [zbuf, h]
theorem put_row (l : List Buf) (i n : Nat) (hi : i < n) (hl : l.length = n) (o : Nat) :
    (if i * 514 ≤ o ∧ o < i * 514 + zbuf.toList.length then zbuf.toList[o - i * 514]?.getD default else poolF l o) = poolF (l.set i ⟨false, ⟨#[]⟩⟩) o := by
  have hz : zbuf.toList.length = 514 := zbuf_size
  rw [poolF_set _ _ _ (by omega), hz]
  by_cases h : i * 514 ≤ o ∧ o < i * 514 + 514
  · rw [if_pos h, if_pos h, zbuf_get _ (by omega)]
  · rw [if_neg h, if_neg h]

set_option maxHeartbeats 400000 in
theorem put_bad (pb B n ever : Nat) (i : Int) (l : List Buf) (w : World) (h : PoolAt w pb B n l ever) (hi : i < 0 ∨ n ≤ i ∨ ∃ k : Nat, i = k ∧ k < n ∧ (l.getD k default).held = false) :
    Calls Try.prog 14 #[.pointer (some ⟨pb, 0, none⟩), .int .i64 i] w fun e w' => e = .returned (.int .i64 14) ∧ Below w.heap.size w w' := by
  go_enter Try.func14, Try.ntmps14
  go_wp2_with fail
  refine (one_bad pb B n ever i l _ (by assumption) (by assumption)).mono ?_
  rintro e w1 ⟨rfl, hb⟩
  have HB : Below w.heap.size w w1 := Below.thn (by (repeat (first | (with_reducible assumption) | (with_reducible exact Below.refl _ _) | with_reducible apply bl_drewN | with_reducible apply Below.drew | (with_reducible apply bl_alloc; focus (first | (simp; done) | (simp; omega) | omega)) | (with_reducible apply bl_set; focus (first | (simp; done) | (simp; omega) | omega))))) hb
  have HBs := HB.size
  clear hb
  go_wp2
  go_ret
  exact ⟨rfl, HB⟩

set_option maxHeartbeats 400000 in
set_option maxRecDepth 20000 in
theorem put_ok (pb B n ever k : Nat) (l : List Buf) (w : World) (h : PoolAt w pb B n l ever) (hk : k < n) (hh : (l.getD k default).held = true) :
    Calls Try.prog 14 #[.pointer (some ⟨pb, 0, none⟩), .int .i64 k] w fun e w' => e = .returned (.int .i64 0) ∧ Turn pb B w w' ∧ PoolAt w' pb B n (l.set k ⟨false, ⟨#[]⟩⟩) ever := by
  go_enter Try.func14, Try.ntmps14
  go_wp2_with fail
  refine (one_ok pb B n ever k l _ (by assumption) (by assumption) (by assumption)).mono ?_
  rintro e w1 ⟨rfl, hb⟩
  have HB : Below w.heap.size w w1 := Below.thn (by (repeat (first | (with_reducible assumption) | (with_reducible exact Below.refl _ _) | with_reducible apply bl_drewN | with_reducible apply Below.drew | (with_reducible apply bl_alloc; focus (first | (simp; done) | (simp; omega) | omega)) | (with_reducible apply bl_set; focus (first | (simp; done) | (simp; omega) | omega))))) hb
  have HBs := HB.size
  clear hb
  have P := h.below HB
  have hz := zbuf_zero
  have hzs := zbuf_size
  have R := P.row
  have hzl : zbuf.toList.length = 514 := zbuf_size
  have hst : (storeCells ⟨B, k * 514, none⟩ zbuf.toList).run Try.prog w1 = .ok () (w1.setCells B (k * 514) zbuf.toList) :=
    run_storeCells_cells (P := Try.prog) B (k * 514) zbuf.toList 0 w1 (fun j hj => by rw [R.cell (by omega)]; rfl) (fun j _ => R.frozen _) (fun v hv => (Array.all_eq_true_iff_forall_mem.1 zbuf_one) v (by simpa using hv))
  have T2 : Turn pb B w (w1.setCells B (k * 514) zbuf.toList) := Turn.sets _ _ _ (Turn.of HB)
  have R2 := rowIs_setCells zbuf.toList (k * 514) _ _ R
  have B2 := P.hd.sets h.ne zbuf.toList (k * 514)
  clear R hzl
  go_wp2
  go_ret
  exact ⟨rfl, T2, B2, R2.congr (fun o _ => put_row l k n hk h.len o), by rw [List.length_set]; exact h.len, fit_set h.len h.fit hk ⟨by decide, fun _ => rfl⟩, h.ne, h.most⟩
end Go.Proofs.Ytkfgbaieghlhkaa
