/- The document's screens: down, from the last row. -/
import Derived.Test.YtgdmeaoghhkknaaRScr3
import Derived.Test.YtgdmeaoghhkknaaLawKit
namespace Go.Proofs.Ytgdmeaoghhkknaa
open Go.RowKit

theorem strs_news {w : World} {b off : Nat} {rows : List ByteArray} (h : RowAt w b off rows) (k : Nat) : ∀ j u, (strs (rows.drop k))[j]? = some u → w.cell? ((⟨b, off + k, none⟩ : Addr).add j) = some u := fun j u hu => by
  rw [addr_plain]
  simp only [strs, List.getElem?_map, List.getElem?_drop] at hu
  obtain ⟨x, hx, rfl⟩ := Option.map_eq_some_iff.1 hu
  obtain ⟨hlt, _⟩ := List.getElem?_eq_some_iff.1 hx
  have := h.cell (k + j) hlt
  rw [← Nat.add_assoc] at this
  rw [this]
  simp [List.getD, hx]
theorem rows_scroll (b : List UInt8) (cw ch : Nat) (hb : b.length = cw * ch) (h1 : 1 ≤ ch) (j : Nat) (hj : j < ch) :
    (txt (b.drop cw ++ List.replicate cw 32)).extract (j * cw) ((j + 1) * cw) = if j + 1 < ch then (txt b).extract ((j + 1) * cw) ((j + 1 + 1) * cw) else txt (List.replicate cw 32) := by
  have e1 : (j + 1) * cw = j * cw + cw := Nat.succ_mul _ _
  have e2 : (j + 1 + 1) * cw = j * cw + cw + cw := by rw [Nat.succ_mul, Nat.succ_mul]
  have hle : (j + 1) * cw ≤ cw * ch := by rw [Nat.mul_comm cw]; exact Nat.mul_le_mul_right _ hj
  split
  · rename_i h
    have hle2 : (j + 1 + 1) * cw ≤ cw * ch := by rw [Nat.mul_comm cw]; exact Nat.mul_le_mul_right _ h
    apply ba_ext
    rw [ba_extract, ba_extract]
    simp only [txt]
    rw [e1, e2, List.drop_append_of_le_length (by simp; omega), List.drop_drop, List.take_append_of_le_length (by simp; omega)]
    congr 1
    · omega
    · congr 1; omega
  · have hch : ch = j + 1 := by omega
    subst hch
    apply ba_ext
    rw [ba_extract]
    simp only [txt]
    have hd : (b.drop cw).length = j * cw := by rw [List.length_drop, hb, Nat.mul_comm]; omega
    rw [← hd, List.drop_left, hd, List.take_of_length_le (by simp; omega)]
set_option maxHeartbeats 4000000 in
set_option maxRecDepth 20000 in
theorem rdown_last (s : Scr) (v : Value) (w : World) (R : RScrAt w v s) (hs : s.Dk) (hy : ¬ s.y + 1 < s.h) (h2 : 2 ≤ s.h) :
    Calls Try.prog 35 #[v] w fun e w' => ∃ v, e = .returned v ∧ RScrAt w' v (nl s) ∧ Below w.heap.size w w' := by
  obtain ⟨i0, hi0, hz0, hz1, hz2⟩ := info_parts info9
  obtain ⟨b, off, c, rfl, hc, hr⟩ := R
  have hyi : ¬ (s.y : Int) + 1 < s.h := by omega
  have hy24 : s.y < 24 := by have := hs.h2; have := hs.y; omega
  have hh24 : s.h ≤ 24 := hs.h2
  have hbl := hr.lt
  have hnl : nl s = { s with x := 0, b := s.b.drop s.w ++ List.replicate s.w 32 } := by unfold nl; rw [if_neg hy]
  have HNL := Lib.hid hnl
  have HS := Lib.hid hs
  have c1 : ¬ c = 1 := by omega
  have c1i : (1 : Int) ≤ s.h := by omega
  have hci : (s.h : Int) ≤ c := by omega
  clear hnl hy hs
  go_enter Try.func35, Try.ntmps35
  go_upto_region 6 with fail
  refine wp_abs2 (n := w.heap.size) (w := w) w.heap.size 41 (w.heap.size + 1) 41 (by (repeat (first | (with_reducible assumption) | (with_reducible exact Below.refl _ _) | with_reducible apply bl_drewN | with_reducible apply Below.drew | (with_reducible apply bl_alloc; focus (first | (simp; done) | (simp; omega) | omega)) | (with_reducible apply bl_set; focus (first | (simp; done) | (simp; omega) | omega))))) (by (repeat (first | (with_reducible assumption) | (with_reducible apply Blk.new'; (first | (with_reducible rfl) | (simp; done))) | with_reducible apply Blk.alloc | with_reducible apply Blk.set | ((with_reducible apply Blk.set_ne); focus (first | (simp; done) | (simp; omega))) | with_reducible apply Blk.drewN | with_reducible apply Blk.drew))) (by (repeat (first | (with_reducible assumption) | (with_reducible apply Blk.new'; (first | (with_reducible rfl) | (simp; done))) | with_reducible apply Blk.alloc | with_reducible apply Blk.set | ((with_reducible apply Blk.set_ne); focus (first | (simp; done) | (simp; omega))) | with_reducible apply Blk.drewN | with_reducible apply Blk.drew))) (fun W1 HB1 QA QR => ?_)
  have hr1 := hr.below HB1
  have HB1s := HB1.size
  have QAc := QA.cell; have QAl := QA.lt; have QRl := QR.lt
  go_wp2_with (at_builtin; refine wpList_append_lies _ rfl _ _ 36 rfl W1.heap.size 9 i0 _ 1 16 Try.underlying36 hi0 hz0 hz1 hz2 rfl (by decide) _ 0 [] rfl (World.ownsRow_nil _ _ _ _) ⟨b, off + 1, none⟩ (s.h - 1) (c - 1) (strs ((rowsL (txt s.b) s.w s.h).drop 1)) rfl ?c1 (strs_news hr1 1) ?c2 ?c3 ?c4 ?c5 (Nat.le_refl _) W1.heap.size rfl ?_)
  case c1 => simp [strs, rowsL]
  case c2 => intro u hu; obtain ⟨x, _, rfl⟩ := List.mem_map.1 hu; rfl
  case c3 => omega
  case c4 => unfold maxLen; omega
  case c5 => omega
  intro g2 c2 w2 ho2 hg hl hlt
  rw [← List.drop_one] at ho2
  have QA2 := blk_grown QA hg (by simp [Value.ownBlock])
  have QR2 := blk_grown QR hg (by simp [Value.ownBlock])
  have HB2 : Below w.heap.size w w2 := HB1.grown hg HB1s (fun q hq => by cases hq)
  have HB2s := HB2.size
  have hW2 : W1.heap.size ≤ w2.heap.size := hg.size
  clear hg hl hlt QA QR QAc HB1 hr1
  obtain ⟨bl, hbl2⟩ : ∃ bl, txt (List.replicate s.w 32) = bl := ⟨_, rfl⟩
  have hB := fun W => rblank_any s.w W (by have := HS.out.w2; omega)
  rw [hbl2] at hB
  have CB := Lib.hid hB
  have HBL := Lib.hid hbl2
  clear hB hbl2
  have QAc := QA2.cell
  go_wp2_with fail
  refine (CB.out _).mono ?_
  rintro e w3 ⟨rfl, hb⟩
  have QA3 := QA2.below hb
  have QR3 := QR2.below hb
  have ho3 := own_below ho2 hb
  have HB3 := Below.thn HB2 hb HB2s
  have HB3s := HB3.size
  have hW3 : W1.heap.size ≤ w3.heap.size := Nat.le_trans hW2 hb.size
  clear QA2 QR2 QAc ho2 HB2 hb
  have QAc := QA3.cell; have QAf := QA3.frozen
  have o4 := ho3.alloc (.cells #[.string bl] 9)
  go_wp2_with (at_builtin; refine wpList_append_lies _ rfl _ _ 36 rfl W1.heap.size 9 i0 _ 1 16 Try.underlying36 hi0 hz0 hz1 hz2 rfl (by decide) _ (s.h - 1) (strs ((rowsL (txt s.b) s.w s.h).drop 1)) rfl o4 ⟨w3.heap.size, 0, none⟩ 1 1 [.string bl] rfl rfl (World.news_of_block (heap_alloc_new w3 _)) (by simp [Value.oneCell']) (by decide) ?c3 ?c4 ?c5 (w3.heap.size + 1) (by simp) ?_)
  case c3 => unfold maxLen; omega
  case c4 => omega
  case c5 => first | omega | (simp; omega)
  intro g5 c5 w5 ho5 hg hl hlt
  have hg2 : W1.heap.size ≤ g2 := (o4.lt g2 rfl).1
  have hg0 : 1 ≤ s.h := by omega
  have QA5 := blk_grown (QA3.alloc (o := .cells #[.string bl] 9)) hg (by simp [Value.ownBlock]; omega)
  have QR5 := blk_grown (QR3.alloc (o := .cells #[.string bl] 9)) hg (by simp [Value.ownBlock]; omega)
  have HB5 : Below w.heap.size w w5 := (HB3.alloc HB3s _).grown hg (by simp; omega) (fun q hq => by simp [Value.ownBlock] at hq; omega)
  have hsh : s.h - 1 + 1 = s.h := by omega
  obtain ⟨g, cc, hv, hgb, hgl, hgc⟩ := own_reads ho5 (by omega)
  simp only [Value.slice.injEq, Option.some.injEq, Addr.mk.injEq, true_and, and_true] at hv
  obtain ⟨rfl, rfl⟩ := hv
  have hcap : s.h ≤ c5 := by
    rcases ho5.2 with ⟨_, h5⟩ | ⟨_, c', _, h5, _, _, h8, _⟩
    · omega
    · simp only [Value.slice.injEq] at h5; omega
  have hrow : RowAt w5 g5 0 (rowsL (txt (s.b.drop s.w ++ List.replicate s.w 32)) s.w s.h) := ⟨hgl, fun i hi => by
    rw [rowsL_length] at hi
    rw [rowsL_get _ _ _ _ hi, rows_scroll s.b s.w s.h HS.out.len hg0 i hi, Nat.zero_add, hgc i (by omega)]
    by_cases h : i + 1 < s.h
    · rw [if_pos h, List.getElem?_append_left (by simp [strs, rowsL]; omega)]
      simp [strs, rowsL, h]
    · rw [if_neg h, HBL.out, List.getElem?_append_right (by simp [strs, rowsL]; omega)]
      have : i - (strs (rowsL (txt s.b) s.w s.h).tail).length = 0 := by simp [strs, rowsL]; omega
      rw [this]; rfl⟩
  have hne : g5 ≠ w.heap.size + 1 := by omega
  have hne2 : g5 ≠ w.heap.size := by omega
  clear hg hl hlt QA3 QR3 QAc QAf ho3 HB3 o4 hgc ho5
  rw [hsh]
  have QAc := QA5.cell; have QAf := QA5.frozen; have QRc := QR5.cell; have QRf := QR5.frozen; have QRl := QR5.lt
  go_wp2_with fail
  refine bodyPost_ret (v := RV s.w s.h 0 s.y (.slice (some ⟨g5, 0, none⟩) s.h c5)) ?_ rfl ⟨_, rfl, ?_, ?_⟩
  · first | (simp [results, Try.results35, go_sem, QRc]; done) | simp [results, Try.results35, go_sem, QRc, QRl]
  · rw [HNL.out]
    exact ⟨g5, 0, c5, rfl, hcap, (((((hrow.set_ne hne2 _).set_ne hne _).set_ne hne _).set_ne hne _).set_ne hne _).set_ne hne _⟩
  · repeat (first | (with_reducible assumption) | (with_reducible exact Below.refl _ _) | with_reducible apply bl_drewN | with_reducible apply Below.drew | (with_reducible apply bl_alloc; focus (first | (simp; done) | (simp; omega) | omega)) | (with_reducible apply bl_set; focus (first | (simp; done) | (simp; omega) | omega)))
end Go.Proofs.Ytgdmeaoghhkknaa
