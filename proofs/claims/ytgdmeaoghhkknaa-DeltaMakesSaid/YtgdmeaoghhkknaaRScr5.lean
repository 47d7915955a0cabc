/- The document's screens: down, of one row. -/
import Derived.Test.YtgdmeaoghhkknaaRScr4
namespace Go.Proofs.Ytgdmeaoghhkknaa
open Go.RowKit

set_option maxHeartbeats 4000000 in
set_option maxRecDepth 20000 in
theorem rdown_one (s : Scr) (v : Value) (w : World) (R : RScrAt w v s) (hs : s.Dk) (h1 : s.h = 1) :
    Calls Try.prog 35 #[v] w fun e w' => ∃ v, e = .returned v ∧ RScrAt w' v (nl s) ∧ Below w.heap.size w w' := by
  obtain ⟨i0, hi0, hz0, hz1, hz2⟩ := info_parts info9
  obtain ⟨b, off, c, rfl, hc, hr⟩ := R
  rw [h1] at hc hr ⊢
  have hy0 : s.y = 0 := by have := hs.y; omega
  rw [hy0]
  have hyi : ¬ ((0 : Nat) : Int) + 1 < ((1 : Nat) : Int) := by omega
  have hbl := hr.lt
  have hci : ((1 : Nat) : Int) ≤ c := by omega
  go_enter Try.func35, Try.ntmps35
  go_upto_region 6 with fail
  refine wp_abs2 (n := w.heap.size) (w := w) w.heap.size 41 (w.heap.size + 1) 41 (by (repeat (first | (with_reducible assumption) | (with_reducible exact Below.refl _ _) | with_reducible apply bl_drewN | with_reducible apply Below.drew | (with_reducible apply bl_alloc; focus (first | (simp; done) | (simp; omega) | omega)) | (with_reducible apply bl_set; focus (first | (simp; done) | (simp; omega) | omega))))) (by (repeat (first | (with_reducible assumption) | (with_reducible apply Blk.new'; (first | (with_reducible rfl) | (simp; done))) | with_reducible apply Blk.alloc | with_reducible apply Blk.set | ((with_reducible apply Blk.set_ne); focus (first | (simp; done) | (simp; omega))) | with_reducible apply Blk.drewN | with_reducible apply Blk.drew))) (by (repeat (first | (with_reducible assumption) | (with_reducible apply Blk.new'; (first | (with_reducible rfl) | (simp; done))) | with_reducible apply Blk.alloc | with_reducible apply Blk.set | ((with_reducible apply Blk.set_ne); focus (first | (simp; done) | (simp; omega))) | with_reducible apply Blk.drewN | with_reducible apply Blk.drew))) (fun W1 HB1 QA QR => ?_)
  have HB1s := HB1.size
  have QAc := QA.cell; have QAl := QA.lt; have QRl := QR.lt
  obtain ⟨bl, hbl2⟩ : ∃ bl, txt (List.replicate s.w 32) = bl := ⟨_, rfl⟩
  have hB := fun W => rblank_any s.w W (by have := hs.w2; omega)
  rw [hbl2] at hB
  have CB := Lib.hid hB
  have HBL := Lib.hid hbl2
  have HS := Lib.hid hs
  have hnl : nl s = { s with x := 0, b := s.b.drop s.w ++ List.replicate s.w 32 } := by unfold nl; rw [if_neg (by omega)]
  have HNL := Lib.hid hnl
  have H1 := Lib.hid h1
  have HY := Lib.hid hy0
  clear hB hbl2 hnl hs h1 hy0 hr
  by_cases c1 : c = 1
  · go_wp2_with fail
    refine (CB.out _).mono ?_
    rintro e w3 ⟨rfl, hb⟩
    have QA3 := QA.below hb
    have QR3 := QR.below hb
    have HB3 := Below.thn HB1 hb HB1s
    have HB3s := HB3.size
    have hW3 := hb.size
    clear QA QR QAc HB1 hb
    have QAc := QA3.cell; have QAf := QA3.frozen
    have o4 : (w3.alloc (.cells #[.string bl] 9)).ownsRow W1.heap.size 9 1 (.slice none 0 0) 0 [] := World.ownsRow_nil _ _ _ _
    go_wp2_with (at_builtin; refine wpList_append_lies _ rfl _ _ 36 rfl W1.heap.size 9 i0 _ 1 16 Try.underlying36 hi0 hz0 hz1 hz2 rfl (by decide) _ 0 [] rfl o4 ⟨w3.heap.size, 0, none⟩ 1 1 [.string bl] rfl rfl (World.news_of_block (heap_alloc_new w3 _)) (by simp [Value.oneCell']) (by decide) ?c3 ?c4 ?c5 (w3.heap.size + 1) (by simp) ?_)
    case c3 => unfold maxLen; omega
    case c4 => omega
    case c5 => first | omega | (simp; done) | (simp; omega)
    intro g5 c5 w5 ho5 hg hl hlt
    have QA5 := blk_grown (QA3.alloc (o := .cells #[.string bl] 9)) hg (by simp [Value.ownBlock])
    have QR5 := blk_grown (QR3.alloc (o := .cells #[.string bl] 9)) hg (by simp [Value.ownBlock])
    have HB5 : Below w.heap.size w w5 := (HB3.alloc HB3s _).grown hg (by first | (simp; done) | (simp; omega)) (fun q hq => by simp [Value.ownBlock] at hq)
    obtain ⟨g, cc, hv, hgb, hgl, hgc⟩ := own_reads ho5 (by omega)
    simp only [Value.slice.injEq, Option.some.injEq, Addr.mk.injEq, true_and, and_true] at hv
    obtain ⟨rfl, rfl⟩ := hv
    have hcap : 1 ≤ c5 := by
      rcases ho5.2 with ⟨_, h5⟩ | ⟨_, c', _, h5, _, _, h8, _⟩
      · omega
      · simp only [Value.slice.injEq] at h5; omega
    have hrow : RowAt w5 g5 0 (rowsL (txt (s.b.drop s.w ++ List.replicate s.w 32)) s.w 1) := ⟨hgl, fun i hi => by
      rw [rowsL_length] at hi
      obtain rfl : i = 0 := by omega
      have hlen := HS.out.len
      rw [H1.out] at hlen
      rw [rowsL_get _ _ _ _ hi, rows_scroll s.b s.w 1 hlen (Nat.le_refl _) 0 hi, if_neg (by omega), HBL.out, Nat.zero_add, hgc 0 (by omega)]
      rfl⟩
    have hne : g5 ≠ w.heap.size + 1 := by omega
    have hne2 : g5 ≠ w.heap.size := by omega
    clear hg hl hlt QA3 QR3 QAc QAf HB3 o4 hgc ho5
    have QAc := QA5.cell; have QAf := QA5.frozen; have QRc := QR5.cell; have QRf := QR5.frozen; have QRl := QR5.lt
    go_wp2_with fail
    refine bodyPost_ret (v := RV s.w (1 : Nat) 0 (0 : Nat) (.slice (some ⟨g5, 0, none⟩) 1 c5)) ?_ rfl ⟨_, rfl, ?_, ?_⟩
    · first | (simp [results, Try.results35, go_sem, QRc]; done) | simp [results, Try.results35, go_sem, QRc, QRl]
    · rw [HNL.out]
      refine ⟨g5, 0, c5, ?_, ?_, ?_⟩
      · show _ = RV s.w s.h 0 s.y (.slice _ s.h c5)
        rw [H1.out, HY.out]
      · show s.h ≤ c5
        rw [H1.out]; exact hcap
      · show RowAt _ g5 0 (rowsL (txt (s.b.drop s.w ++ List.replicate s.w 32)) s.w s.h)
        rw [H1.out]
        exact (((((hrow.set_ne hne2 _).set_ne hne _).set_ne hne _).set_ne hne _).set_ne hne _).set_ne hne _
    · repeat (first | (with_reducible assumption) | (with_reducible exact Below.refl _ _) | with_reducible apply bl_drewN | with_reducible apply Below.drew | (with_reducible apply bl_alloc; focus (first | (simp; done) | (simp; omega) | omega)) | (with_reducible apply bl_set; focus (first | (simp; done) | (simp; omega) | omega)))
  · go_wp2_with fail
    refine (CB.out _).mono ?_
    rintro e w3 ⟨rfl, hb⟩
    have QA3 := QA.below hb
    have QR3 := QR.below hb
    have HB3 := Below.thn HB1 hb HB1s
    have HB3s := HB3.size
    have hW3 := hb.size
    clear QA QR QAc HB1 hb
    have QAc := QA3.cell; have QAf := QA3.frozen
    have o4 : (w3.alloc (.cells #[.string bl] 9)).ownsRow W1.heap.size 9 1 (.slice none 0 0) 0 [] := World.ownsRow_nil _ _ _ _
    go_wp2_with (at_builtin; refine wpList_append_lies _ rfl _ _ 36 rfl W1.heap.size 9 i0 _ 1 16 Try.underlying36 hi0 hz0 hz1 hz2 rfl (by decide) _ 0 [] rfl o4 ⟨w3.heap.size, 0, none⟩ 1 1 [.string bl] rfl rfl (World.news_of_block (heap_alloc_new w3 _)) (by simp [Value.oneCell']) (by decide) ?c3 ?c4 ?c5 (w3.heap.size + 1) (by simp) ?_)
    case c3 => unfold maxLen; omega
    case c4 => omega
    case c5 => first | omega | (simp; done) | (simp; omega)
    intro g5 c5 w5 ho5 hg hl hlt
    have QA5 := blk_grown (QA3.alloc (o := .cells #[.string bl] 9)) hg (by simp [Value.ownBlock])
    have QR5 := blk_grown (QR3.alloc (o := .cells #[.string bl] 9)) hg (by simp [Value.ownBlock])
    have HB5 : Below w.heap.size w w5 := (HB3.alloc HB3s _).grown hg (by first | (simp; done) | (simp; omega)) (fun q hq => by simp [Value.ownBlock] at hq)
    obtain ⟨g, cc, hv, hgb, hgl, hgc⟩ := own_reads ho5 (by omega)
    simp only [Value.slice.injEq, Option.some.injEq, Addr.mk.injEq, true_and, and_true] at hv
    obtain ⟨rfl, rfl⟩ := hv
    have hcap : 1 ≤ c5 := by
      rcases ho5.2 with ⟨_, h5⟩ | ⟨_, c', _, h5, _, _, h8, _⟩
      · omega
      · simp only [Value.slice.injEq] at h5; omega
    have hrow : RowAt w5 g5 0 (rowsL (txt (s.b.drop s.w ++ List.replicate s.w 32)) s.w 1) := ⟨hgl, fun i hi => by
      rw [rowsL_length] at hi
      obtain rfl : i = 0 := by omega
      have hlen := HS.out.len
      rw [H1.out] at hlen
      rw [rowsL_get _ _ _ _ hi, rows_scroll s.b s.w 1 hlen (Nat.le_refl _) 0 hi, if_neg (by omega), HBL.out, Nat.zero_add, hgc 0 (by omega)]
      rfl⟩
    have hne : g5 ≠ w.heap.size + 1 := by omega
    have hne2 : g5 ≠ w.heap.size := by omega
    clear hg hl hlt QA3 QR3 QAc QAf HB3 o4 hgc ho5
    have QAc := QA5.cell; have QAf := QA5.frozen; have QRc := QR5.cell; have QRf := QR5.frozen; have QRl := QR5.lt
    go_wp2_with fail
    refine bodyPost_ret (v := RV s.w (1 : Nat) 0 (0 : Nat) (.slice (some ⟨g5, 0, none⟩) 1 c5)) ?_ rfl ⟨_, rfl, ?_, ?_⟩
    · first | (simp [results, Try.results35, go_sem, QRc]; done) | simp [results, Try.results35, go_sem, QRc, QRl]
    · rw [HNL.out]
      refine ⟨g5, 0, c5, ?_, ?_, ?_⟩
      · show _ = RV s.w s.h 0 s.y (.slice _ s.h c5)
        rw [H1.out, HY.out]
      · show s.h ≤ c5
        rw [H1.out]; exact hcap
      · show RowAt _ g5 0 (rowsL (txt (s.b.drop s.w ++ List.replicate s.w 32)) s.w s.h)
        rw [H1.out]
        exact (((((hrow.set_ne hne2 _).set_ne hne _).set_ne hne _).set_ne hne _).set_ne hne _).set_ne hne _
    · repeat (first | (with_reducible assumption) | (with_reducible exact Below.refl _ _) | with_reducible apply bl_drewN | with_reducible apply Below.drew | (with_reducible apply bl_alloc; focus (first | (simp; done) | (simp; omega) | omega)) | (with_reducible apply bl_set; focus (first | (simp; done) | (simp; omega) | omega)))
theorem rdown_any (s : Scr) (v : Value) (w : World) (R : RScrAt w v s) (hs : s.Dk) :
    Calls Try.prog 35 #[v] w fun e w' => ∃ v, e = .returned v ∧ RScrAt w' v (nl s) ∧ Below w.heap.size w w' := by
  by_cases hy : s.y + 1 < s.h
  · exact rdown_step s v w R hs hy
  by_cases h1 : s.h = 1
  · exact rdown_one s v w R hs h1
  · exact rdown_last s v w R hs hy (by have := hs.h1; omega)
end Go.Proofs.Ytgdmeaoghhkknaa
