/- A screen's text, the program's and the document's. -/
import Derived.Test.YtgdmeaoghhkknaaRScr9
namespace Go.Proofs.Ytgdmeaoghhkknaa
open Go.RowKit

def head4 (s : Scr) : ByteArray := ⟨#[UInt8.ofNat s.w, UInt8.ofNat s.h, UInt8.ofNat s.x, UInt8.ofNat s.y]⟩
def txtS (s : Scr) : ByteArray := head4 s ++ txt s.b
theorem row_four {w : World} {g : Nat} {a b c d : Nat} {t : TypeId} (ha : a ≤ 255) (hb : b ≤ 255) (hc : c ≤ 255) (hd : d ≤ 255) (B : Blk w g #[.int .u8 a, .int .u8 b, .int .u8 c, .int .u8 d] t) :
    BRow w g [UInt8.ofNat a, UInt8.ofNat b, UInt8.ofNat c, UInt8.ofNat d] := by
  refine ⟨B.lt, fun i hi => ?_, fun i _ => B.frozen i⟩
  have e : ∀ n : Nat, n ≤ 255 → (UInt8.ofNat n).toNat = n := fun n hn => by rw [UInt8.toNat_ofNat']; omega
  rw [B.cell]
  have h4 : i < 4 := hi
  match i, h4 with
  | 0, _ => simp [bval, e a ha]
  | 1, _ => simp [bval, e b hb]
  | 2, _ => simp [bval, e c hc]
  | 3, _ => simp [bval, e d hd]

set_option maxHeartbeats 4000000 in
set_option maxRecDepth 20000 in
theorem text_any (s : Scr) (w : World) (hs : s.Ok) : Calls Try.prog 22 #[VV s.w s.h s.x s.y (txt s.b)] w fun e w' => e = .returned (.string (txtS s)) ∧ Below w.heap.size w w' := by
  have hx := hs.x; have hy := hs.y; have h0 := hs.w2; have h1 := hs.h2
  have hlen := hs.len
  have hn := wh_small hs.w2 hs.h2
  rw [← hlen] at hn
  unfold txtS head4
  obtain ⟨sw, sh, sx, sy, sb⟩ := s
  simp only at hx hy h0 h1 hn ⊢
  obtain ⟨t, ht⟩ : ∃ t, txt sb = t := ⟨_, rfl⟩
  have hts : t.size ≤ 1920 := by rw [← ht, txt_size]; exact hn
  rw [ht]
  obtain ⟨r, hr⟩ : ∃ r : ByteArray, r = ⟨#[UInt8.ofNat sw, UInt8.ofNat sh, UInt8.ofNat sx, UInt8.ofNat sy]⟩ := ⟨_, rfl⟩
  have hrs : r.size = 4 := by rw [hr]; rfl
  have radd : ∀ W, (Op.stringOp .add r t).run Try.prog W = .ok (.string (r ++ t)) W := fun W => run_string_add_sum W _ _ (by omega)
  have hcv : ∀ (W : World) (b : Nat), Blk W b #[.int .u8 sw, .int .u8 sh, .int .u8 sx, .int .u8 sy] 5 → (convert 34 9 (.slice (some ⟨b, 0, none⟩) 4 4)).run Try.prog W = .ok (.string r) W := fun W b B => by
    rw [hr]
    exact Lib.run_convert_whole (P := Try.prog) W 34 5 9 Try.underlying34 Try.underlying5 Try.underlying9 b 0 _ (row_bytes (row_four (by omega) (by omega) (by omega) (by omega) B)) 4
  have hcv1 := hcv ((w.alloc (.cells #[.int .i64 sw, .int .i64 sh, .int .i64 sx, .int .i64 sy, .string t] 24)).alloc (.cells #[.int .u8 sw, .int .u8 sh, .int .u8 sx, .int .u8 sy] 5)) (w.heap.size + 1) (by (repeat (first | (with_reducible assumption) | (with_reducible apply Blk.new'; (first | (with_reducible rfl) | (simp; done))) | with_reducible apply Blk.alloc | with_reducible apply Blk.set | ((with_reducible apply Blk.set_ne); focus (first | (simp; done) | (simp; omega))) | with_reducible apply Blk.drewN | with_reducible apply Blk.drew)))
  rw [← hr]
  clear hcv hr ht hs hlen
  go_enter Try.func22, Try.ntmps22
  go_wp2_with fail
  go_ret
  exact ⟨rfl, by (repeat (first | (with_reducible assumption) | (with_reducible exact Below.refl _ _) | with_reducible apply bl_drewN | with_reducible apply Below.drew | (with_reducible apply bl_alloc; focus (first | (simp; done) | (simp; omega) | omega)) | (with_reducible apply bl_set; focus (first | (simp; done) | (simp; omega) | omega))))⟩

set_option maxHeartbeats 4000000 in
set_option maxRecDepth 20000 in
theorem rtext_any (s : Scr) (v : Value) (w : World) (R0 : RScrAt w v s) (hs : s.Ok) : Calls Try.prog 23 #[v] w fun e w' => e = .returned (.string (txtS s)) ∧ Below w.heap.size w w' := by
  have HC := fun W (hb : Below w.heap.size w W) => rcells_any s v W (R0.below hb) hs.dk
  obtain ⟨b0, off0, c0, rfl, _, _⟩ := R0
  have hx := hs.x; have hy := hs.y; have h0 := hs.w2; have h1 := hs.h2
  have hlen := hs.len
  have hn := wh_small hs.w2 hs.h2
  rw [← hlen] at hn
  unfold txtS head4
  obtain ⟨sw, sh, sx, sy, sb⟩ := s
  simp only at hx hy h0 h1 hn HC ⊢
  obtain ⟨t, ht⟩ : ∃ t, txt sb = t := ⟨_, rfl⟩
  have hts : t.size ≤ 1920 := by rw [← ht, txt_size]; exact hn
  rw [ht] at HC ⊢
  obtain ⟨r, hr⟩ : ∃ r : ByteArray, r = ⟨#[UInt8.ofNat sw, UInt8.ofNat sh, UInt8.ofNat sx, UInt8.ofNat sy]⟩ := ⟨_, rfl⟩
  have hrs : r.size = 4 := by rw [hr]; rfl
  have radd : ∀ W, (Op.stringOp .add r t).run Try.prog W = .ok (.string (r ++ t)) W := fun W => run_string_add_sum W _ _ (by omega)
  have hcv : ∀ (W : World) (b : Nat), Blk W b #[.int .u8 sw, .int .u8 sh, .int .u8 sx, .int .u8 sy] 5 → (convert 34 9 (.slice (some ⟨b, 0, none⟩) 4 4)).run Try.prog W = .ok (.string r) W := fun W b B => by
    rw [hr]
    exact Lib.run_convert_whole (P := Try.prog) W 34 5 9 Try.underlying34 Try.underlying5 Try.underlying9 b 0 _ (row_bytes (row_four (by omega) (by omega) (by omega) (by omega) B)) 4
  have HCV := Lib.hid hcv
  have HCE := Lib.hid HC
  rw [← hr]
  clear hcv hr ht hs hlen HC
  go_enter Try.func23, Try.ntmps23
  go_upto_region 1 with fail
  refine wp_absQ (fun W => Below w.heap.size w W ∧ Blk W w.heap.size #[.int .i64 sw, .int .i64 sh, .int .i64 sx, .int .i64 sy, .slice (some ⟨b0, off0, none⟩) sh c0] 41) ⟨by (repeat (first | (with_reducible assumption) | (with_reducible exact Below.refl _ _) | with_reducible apply bl_drewN | with_reducible apply Below.drew | (with_reducible apply bl_alloc; focus (first | (simp; done) | (simp; omega) | omega)) | (with_reducible apply bl_set; focus (first | (simp; done) | (simp; omega) | omega)))), by (repeat (first | (with_reducible assumption) | (with_reducible apply Blk.new'; (first | (with_reducible rfl) | (simp; done))) | with_reducible apply Blk.alloc | with_reducible apply Blk.set | ((with_reducible apply Blk.set_ne); focus (first | (simp; done) | (simp; omega))) | with_reducible apply Blk.drewN | with_reducible apply Blk.drew))⟩ (fun W1 h5 => ?_)
  obtain ⟨HB1, B1⟩ := h5
  have HB1s := HB1.size
  refine wp_region_typed 17 (fun k => match k with | 13 => [12] | _ => []) (fun k => match k with  | _ => false) (fun k => match k with | 12 => some ⟨(Nat), (0), (fun b => .slice (some ⟨b, 0, none⟩) 4 4), (fun b w => Blk w b #[.int .u8 sw, .int .u8 sh, .int .u8 sx, .int .u8 sy] 5), (fun b w w' h hb => h.below hb)⟩ | 13 => some ⟨(Unit), (()), (fun _ => .string r), (fun _ _ => True), (fun _ _ _ h _ => h)⟩ | 15 => some ⟨(Unit), (()), (fun _ => .string t), (fun _ _ => True), (fun _ _ _ h _ => h)⟩ | 16 => some ⟨(Unit), (()), (fun _ => .string (r ++ t)), (fun _ _ => True), (fun _ _ _ h _ => h)⟩ | _ => none) (by kernel_rfl) (by kernel_rfl) (by intro d0 v0 c0 a0 w0 h0; cases d0 <;> exact h0) ?_
  rw [show List.range 17 = [0, 1, 2, 3, 4, 5, 6, 7, 8, 9, 10, 11, 12, 13, 14, 15, 16] from rfl]
  first
    | (refine ty_skip rfl rfl ?_; (try simp only [Act.put, List.setIfInBounds_toArray, List.set_cons_zero, List.set_cons_succ]))
    | (refine ty_pure rfl rfl rfl rfl ?_; apply Exists.intro; refine ⟨fun wq hq hk => ?_, ?_⟩
       · have f0 := hq.blk B1; simp only [pureAt]; go_simp; (try simp only [↓IntWalk.iteOmega]); (try go_bits); (try simp only [pureUpon]); (first | done | exact ⟨rfl, rfl⟩ | exact ⟨trivial, rfl⟩ | rfl)
       (try simp only [Act.put, List.setIfInBounds_toArray, List.set_cons_zero, List.set_cons_succ]))
  first
    | (refine ty_skip rfl rfl ?_; (try simp only [Act.put, List.setIfInBounds_toArray, List.set_cons_zero, List.set_cons_succ]))
    | (refine ty_pure rfl rfl rfl rfl ?_; apply Exists.intro; refine ⟨fun wq hq hk => ?_, ?_⟩
       · have f0 := hq.blk B1; simp only [pureAt]; go_simp; (try simp only [↓IntWalk.iteOmega]); (try go_bits); (try simp only [pureUpon]); (first | done | exact ⟨rfl, rfl⟩ | exact ⟨trivial, rfl⟩ | rfl)
       (try simp only [Act.put, List.setIfInBounds_toArray, List.set_cons_zero, List.set_cons_succ]))
  first
    | (refine ty_skip rfl rfl ?_; (try simp only [Act.put, List.setIfInBounds_toArray, List.set_cons_zero, List.set_cons_succ]))
    | (refine ty_pure rfl rfl rfl rfl ?_; apply Exists.intro; refine ⟨fun wq hq hk => ?_, ?_⟩
       · have f0 := hq.blk B1; simp only [pureAt]; go_simp; (try simp only [↓IntWalk.iteOmega]); (try go_bits); (try simp only [pureUpon]); (first | done | exact ⟨rfl, rfl⟩ | exact ⟨trivial, rfl⟩ | rfl)
       (try simp only [Act.put, List.setIfInBounds_toArray, List.set_cons_zero, List.set_cons_succ]))
  first
    | (refine ty_skip rfl rfl ?_; (try simp only [Act.put, List.setIfInBounds_toArray, List.set_cons_zero, List.set_cons_succ]))
    | (refine ty_pure rfl rfl rfl rfl ?_; apply Exists.intro; refine ⟨fun wq hq hk => ?_, ?_⟩
       · have f0 := hq.blk B1; simp only [pureAt]; go_simp; (try simp only [↓IntWalk.iteOmega]); (try go_bits); (try simp only [pureUpon]); (first | done | exact ⟨rfl, rfl⟩ | exact ⟨trivial, rfl⟩ | rfl)
       (try simp only [Act.put, List.setIfInBounds_toArray, List.set_cons_zero, List.set_cons_succ]))
  first
    | (refine ty_skip rfl rfl ?_; (try simp only [Act.put, List.setIfInBounds_toArray, List.set_cons_zero, List.set_cons_succ]))
    | (refine ty_pure rfl rfl rfl rfl ?_; apply Exists.intro; refine ⟨fun wq hq hk => ?_, ?_⟩
       · have f0 := hq.blk B1; simp only [pureAt]; go_simp; (try simp only [↓IntWalk.iteOmega]); (try go_bits); (try simp only [pureUpon]); (first | done | exact ⟨rfl, rfl⟩ | exact ⟨trivial, rfl⟩ | rfl)
       (try simp only [Act.put, List.setIfInBounds_toArray, List.set_cons_zero, List.set_cons_succ]))
  first
    | (refine ty_skip rfl rfl ?_; (try simp only [Act.put, List.setIfInBounds_toArray, List.set_cons_zero, List.set_cons_succ]))
    | (refine ty_pure rfl rfl rfl rfl ?_; apply Exists.intro; refine ⟨fun wq hq hk => ?_, ?_⟩
       · have f0 := hq.blk B1; simp only [pureAt]; go_simp; (try simp only [↓IntWalk.iteOmega]); (try go_bits); (try simp only [pureUpon]); (first | done | exact ⟨rfl, rfl⟩ | exact ⟨trivial, rfl⟩ | rfl)
       (try simp only [Act.put, List.setIfInBounds_toArray, List.set_cons_zero, List.set_cons_succ]))
  first
    | (refine ty_skip rfl rfl ?_; (try simp only [Act.put, List.setIfInBounds_toArray, List.set_cons_zero, List.set_cons_succ]))
    | (refine ty_pure rfl rfl rfl rfl ?_; apply Exists.intro; refine ⟨fun wq hq hk => ?_, ?_⟩
       · have f0 := hq.blk B1; simp only [pureAt]; go_simp; (try simp only [↓IntWalk.iteOmega]); (try go_bits); (try simp only [pureUpon]); (first | done | exact ⟨rfl, rfl⟩ | exact ⟨trivial, rfl⟩ | rfl)
       (try simp only [Act.put, List.setIfInBounds_toArray, List.set_cons_zero, List.set_cons_succ]))
  first
    | (refine ty_skip rfl rfl ?_; (try simp only [Act.put, List.setIfInBounds_toArray, List.set_cons_zero, List.set_cons_succ]))
    | (refine ty_pure rfl rfl rfl rfl ?_; apply Exists.intro; refine ⟨fun wq hq hk => ?_, ?_⟩
       · have f0 := hq.blk B1; simp only [pureAt]; go_simp; (try simp only [↓IntWalk.iteOmega]); (try go_bits); (try simp only [pureUpon]); (first | done | exact ⟨rfl, rfl⟩ | exact ⟨trivial, rfl⟩ | rfl)
       (try simp only [Act.put, List.setIfInBounds_toArray, List.set_cons_zero, List.set_cons_succ]))
  first
    | (refine ty_skip rfl rfl ?_; (try simp only [Act.put, List.setIfInBounds_toArray, List.set_cons_zero, List.set_cons_succ]))
    | (refine ty_pure rfl rfl rfl rfl ?_; apply Exists.intro; refine ⟨fun wq hq hk => ?_, ?_⟩
       · have f0 := hq.blk B1; simp only [pureAt]; go_simp; (try simp only [↓IntWalk.iteOmega]); (try go_bits); (try simp only [pureUpon]); (first | done | exact ⟨rfl, rfl⟩ | exact ⟨trivial, rfl⟩ | rfl)
       (try simp only [Act.put, List.setIfInBounds_toArray, List.set_cons_zero, List.set_cons_succ]))
  first
    | (refine ty_skip rfl rfl ?_; (try simp only [Act.put, List.setIfInBounds_toArray, List.set_cons_zero, List.set_cons_succ]))
    | (refine ty_pure rfl rfl rfl rfl ?_; apply Exists.intro; refine ⟨fun wq hq hk => ?_, ?_⟩
       · have f0 := hq.blk B1; simp only [pureAt]; go_simp; (try simp only [↓IntWalk.iteOmega]); (try go_bits); (try simp only [pureUpon]); (first | done | exact ⟨rfl, rfl⟩ | exact ⟨trivial, rfl⟩ | rfl)
       (try simp only [Act.put, List.setIfInBounds_toArray, List.set_cons_zero, List.set_cons_succ]))
  first
    | (refine ty_skip rfl rfl ?_; (try simp only [Act.put, List.setIfInBounds_toArray, List.set_cons_zero, List.set_cons_succ]))
    | (refine ty_pure rfl rfl rfl rfl ?_; apply Exists.intro; refine ⟨fun wq hq hk => ?_, ?_⟩
       · have f0 := hq.blk B1; simp only [pureAt]; go_simp; (try simp only [↓IntWalk.iteOmega]); (try go_bits); (try simp only [pureUpon]); (first | done | exact ⟨rfl, rfl⟩ | exact ⟨trivial, rfl⟩ | rfl)
       (try simp only [Act.put, List.setIfInBounds_toArray, List.set_cons_zero, List.set_cons_succ]))
  first
    | (refine ty_skip rfl rfl ?_; (try simp only [Act.put, List.setIfInBounds_toArray, List.set_cons_zero, List.set_cons_succ]))
    | (refine ty_pure rfl rfl rfl rfl ?_; apply Exists.intro; refine ⟨fun wq hq hk => ?_, ?_⟩
       · have f0 := hq.blk B1; simp only [pureAt]; go_simp; (try simp only [↓IntWalk.iteOmega]); (try go_bits); (try simp only [pureUpon]); (first | done | exact ⟨rfl, rfl⟩ | exact ⟨trivial, rfl⟩ | rfl)
       (try simp only [Act.put, List.setIfInBounds_toArray, List.set_cons_zero, List.set_cons_succ]))
  refine ty_rel rfl rfl _ rfl rfl (fun wq hq hk => ?_) ?_
  · have f0 := hq.blk B1; simp only [relAt]; go_simp; (try simp only [relUpon]); exact .mk ((Below.refl _ _).alloc (Nat.le_refl _) _) wq.heap.size rfl (Blk.new wq _ _)
  rintro (b12 : Nat)
  (try simp only [Act.put, List.setIfInBounds_toArray, List.set_cons_zero, List.set_cons_succ])
  refine ty_rel rfl rfl _ rfl rfl (fun wq hq hk => ?_) ?_
  · have f0 := hq.blk B1; have hr := hk _ (.head _) rfl; have hc5 := HCV.out wq _ hr; simp only [relAt]; go_simp; (try simp only [relUpon]); exact .mk (Below.refl _ _) () rfl trivial
  rintro ⟨⟩
  (try simp only [Act.put, List.setIfInBounds_toArray, List.set_cons_zero, List.set_cons_succ])
  first
    | (refine ty_skip rfl rfl ?_; (try simp only [Act.put, List.setIfInBounds_toArray, List.set_cons_zero, List.set_cons_succ]))
    | (refine ty_pure rfl rfl rfl rfl ?_; apply Exists.intro; refine ⟨fun wq hq hk => ?_, ?_⟩
       · have f0 := hq.blk B1; simp only [pureAt]; go_simp; (try simp only [↓IntWalk.iteOmega]); (try go_bits); (try simp only [pureUpon]); (first | done | exact ⟨rfl, rfl⟩ | exact ⟨trivial, rfl⟩ | rfl)
       (try simp only [Act.put, List.setIfInBounds_toArray, List.set_cons_zero, List.set_cons_succ]))
  refine ty_rel rfl rfl _ rfl rfl (fun wq hq hk => ?_) ?_
  · have f0 := hq.blk B1; simp only [relAt]; go_simp; (try simp only [relUpon]); (go_at_call 39; refine (HCE.out _ (Below.thn HB1 hq.out HB1s)).mono ?_; rintro e w9 ⟨rfl, hb9⟩; exact ⟨_, rfl, .mk hb9 () rfl trivial⟩)
  rintro ⟨⟩
  (try simp only [Act.put, List.setIfInBounds_toArray, List.set_cons_zero, List.set_cons_succ])
  refine ty_rel rfl rfl _ rfl rfl (fun wq hq hk => ?_) ?_
  · have f0 := hq.blk B1; have ra := radd wq; simp only [relAt]; go_simp; (try simp only [relUpon]); exact .mk (Below.refl _ _) () rfl trivial
  rintro ⟨⟩
  (try simp only [Act.put, List.setIfInBounds_toArray, List.set_cons_zero, List.set_cons_succ])
  refine ty_nil ?_
  simp only [List.drop_succ_cons, List.drop_zero]
  intro W8 hw8 hΓ
  have HB8 := Below.thn HB1 hw8.out HB1s
  clear hΓ hw8
  go_wp2_with fail
  go_ret
  exact ⟨rfl, HB8⟩
end Go.Proofs.Ytgdmeaoghhkknaa
