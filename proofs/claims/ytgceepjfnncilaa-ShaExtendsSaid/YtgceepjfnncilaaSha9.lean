/- Package sha: Text. -/
import Derived.Test.YtgceepjfnncilaaSha8
namespace Go.Proofs.Ytgceepjfnncilaa
open Go.RowKit

/-- A list of texts, one behind the other. -/
def catB (xs : List ByteArray) : ByteArray := ⟨((xs.map (·.data.toList)).flatten).toArray⟩
theorem join_cat (xs : List ByteArray) : Lib.join (xs.map (·.data.toList)) [] = (xs.map (·.data.toList)).flatten := by
  cases xs with
  | nil => rfl
  | cons x r =>
    rw [List.map_cons, Lib.join_cons]
    simp [Lib.joinTail, Function.comp_def]
/-- strings.Join of texts that lie in a row. -/
theorem join_row (b : Nat) (xs : List ByteArray) (w W : World) (t : TypeId) (B : Blk w b (xs.map Value.string).toArray t) (hl : (catB xs).size ≤ 10000) (hn : xs.length ≤ 1000) (hb : Below w.heap.size w W) :
    Calls Try.prog 38 #[.slice (some ⟨b, 0, none⟩) xs.length xs.length, .string ⟨#[]⟩] W fun e w' => e = .returned (.string (catB xs)) ∧ Below W.heap.size W w' := by
  have B' := B.below hb
  have h5 := Try.strings_Join b 0 xs.length xs ⟨#[]⟩ W (fun j x hx => by
    rw [Nat.zero_add, B'.cell, List.getElem?_toArray, List.getElem?_map, hx]; rfl) B'.lt (by omega) (Nat.le_refl _) (by
    rw [show (⟨#[]⟩ : ByteArray).data.toList = [] from rfl, join_cat]
    have : (catB xs).size = ((xs.map (·.data.toList)).flatten).length := rfl
    omega)
  rw [show (⟨#[]⟩ : ByteArray).data.toList = [] from rfl, join_cat] at h5
  exact h5
theorem join_no (W : World) : Calls Try.prog 38 #[.slice none 0 0, .string ⟨#[]⟩] W fun e w' => e = .returned (.string (catB [])) ∧ Below W.heap.size W w' :=
  (Try.strings_Join_none none 0 ⟨#[]⟩ W).mono fun _ _ h => ⟨h.1, h.2 ▸ Below.refl _ _⟩
/-- A text's sum as a text. -/
def sumB (T : ByteArray) : ByteArray := ⟨(sumL T.data.toList).toArray⟩
theorem sumB_size (T : ByteArray) : (sumB T).size = 32 := sumL_len _
theorem sumB_list (T : ByteArray) : (sumB T).data.toList = sumL T.data.toList := rfl
set_option maxHeartbeats 4000000 in
set_option maxRecDepth 20000 in
theorem text_any (v : Value) (T : ByteArray) (w : World) (hT : T.size ≤ 10000)
    (hJ : ∀ W, Below w.heap.size w W → Calls Try.prog 38 #[v, .string ⟨#[]⟩] W fun e w' => e = .returned (.string T) ∧ Below W.heap.size W w') :
    Calls Try.prog 14 #[v] w fun e w' => e = .returned (.string (sumB T)) ∧ Below w.heap.size w w' := by
  have hlen := sumL_len T.data.toList
  have hS := sum_any v T w hT hJ
  obtain ⟨L, hL⟩ : ∃ L, sumL T.data.toList = L := ⟨_, rfl⟩
  have hB : sumB T = ⟨L.toArray⟩ := by rw [← hL]; rfl
  rw [hL] at hlen hS
  rw [hB]
  obtain ⟨C, hC⟩ : ∃ C, (L.map bval).toArray = C := ⟨_, rfl⟩
  rw [hC] at hS
  have hCs : C.size = 32 := by rw [← hC]; simp [hlen]
  have hall : C.all (·.oneCell') = true := by
    rw [← hC]
    exact all_oneCell_toArray (fun v hv => by obtain ⟨n, _, rfl⟩ := List.mem_map.1 hv; rfl)
  have HS := Lib.hid hS; have HC := Lib.hid hC
  clear hS hC hL hB hJ
  go_enter Try.func14, Try.ntmps14
  go_wp2_with fail
  refine HS.out.mono ?_
  rintro e W1 ⟨rfl, hb1⟩
  have hbs := hb1.size
  go_upto_region 2 with (refine wpList_put rfl 26 _ _ rfl W1.heap.size _ _ 26 rfl rfl (by (repeat (first | (with_reducible assumption) | (with_reducible apply Blk.new'; (first | (with_reducible rfl) | (simp; done))) | with_reducible apply Blk.alloc | with_reducible apply Blk.set | ((with_reducible apply Blk.set_ne); focus (first | (simp; done) | (simp; omega))) | with_reducible apply Blk.drewN | with_reducible apply Blk.drew))) (by rw [hCs]; kernel_rfl) (hCs.trans rfl) hall (fun W9 hp9 B9 => ?_))
  have HB9 : Below w.heap.size w W9 := hp9.below (by omega) (by (repeat (first | (with_reducible assumption) | (with_reducible exact Below.refl _ _) | with_reducible apply bl_drewN | with_reducible apply Below.drew | (with_reducible apply bl_alloc; focus (first | (simp; done) | (simp; omega) | omega)) | (with_reducible apply bl_set; focus (first | (simp; done) | (simp; omega) | omega)))))
  have R : BRow W9 W1.heap.size L := ⟨B9.lt, fun i hi => by
    rw [B9.cell, ← HC.out, List.getElem?_toArray, List.getElem?_map, List.getD_eq_getElem?_getD, List.getElem?_eq_getElem hi]; rfl, fun i _ => B9.frozen i⟩
  have hcv : (convert 30 9 (.slice (some ⟨W1.heap.size, 0, none⟩) 32 32)).run Try.prog W9 = .ok (.string ⟨L.toArray⟩) W9 := by
    have h5 := Lib.run_convert_whole (P := Try.prog) W9 30 5 9 Try.underlying30 Try.underlying5 Try.underlying9 W1.heap.size 0 ⟨L.toArray⟩ (row_bytes R) 32
    rw [show (⟨L.toArray⟩ : ByteArray).size = 32 from hlen] at h5
    exact h5
  clear hp9 B9 R
  go_wp2_with fail
  go_ret
  exact ⟨rfl, HB9⟩
end Go.Proofs.Ytgceepjfnncilaa
