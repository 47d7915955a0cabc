/- The document's deltas: Do. -/
import Derived.Test.YtgdmeaoghhkknaaRDel1
import Derived.Test.YtgdmeaoghhkknaaRTxt4
namespace Go.Proofs.Ytgdmeaoghhkknaa
open Go.RowKit

theorem rof_any (s t : Scr) (v1 v2 : Value) (w : World) (R1 : RScrAt w v1 s) (R2 : RScrAt w v2 t) (hs : s.Ok) (ht : t.Ok) :
    Calls Try.prog 30 #[v1, v2] w fun e w' => e = .returned (.string ⟨(ofL s t).toArray⟩) ∧ Below w.heap.size w w' := by
  have hT := fun W (hb : Below w.heap.size w W) => rtext_any t v2 W (R2.below hb) ht
  obtain ⟨b1, o1, c1, rfl, hc1, hr1⟩ := R1
  obtain ⟨b2, o2, c2, rfl, hc2, hr2⟩ := R2
  by_cases hd : t.w ≠ s.w ∨ t.h ≠ s.h
  · have hts : (txtS t).size ≤ 2000 := by
      show (head4 t ++ txt t.b).size ≤ _
      rw [ByteArray.size_append, txt_size, ht.len]
      have h5 := wh_small ht.w2 ht.h2
      show 4 + _ ≤ _
      omega
    have he : (⟨(ofL s t).toArray⟩ : ByteArray) = ⟨#[102]⟩ ++ txtS t := by
      apply ba_ext; rw [ba_app]; unfold ofL; rw [if_pos hd]; rfl
    rw [he]
    exact rof_other' _ _ _ _ _ _ _ _ _ _ (txtS t) _ w ⟨_, _, _, _, rfl⟩ ⟨_, _, _, _, rfl⟩ hT (fun W => run_string_add_sum W _ _ (by show 1 + _ ≤ _; omega)) (by omega)
  · have hw : t.w = s.w := by omega
    have hh : t.h = s.h := by omega
    rw [hh] at hc2
    rw [hw, hh] at hr2 ⊢
    exact rof_same s t b1 o1 c1 b2 o2 c2 w hs ht hw hh hc1 hc2 hr1 hr2

def RDPost (s : Scr) (d : ByteArray) (w : World) (e : Ending) (w' : World) : Prop :=
  (doL s d.data.toList = none ∧ e = .returned (.tuple #[RV 0 0 0 0 (.slice none 0 0), .bool false]) ∧ Below w.heap.size w w') ∨
  (∃ b v, doL s d.data.toList = some b ∧ e = .returned (.tuple #[v, .bool true]) ∧ RScrAt w' v b ∧ Below w.heap.size w w')

set_option maxHeartbeats 8000000 in
set_option maxRecDepth 20000 in
theorem rdo_no (s : Scr) (v : Value) (d : ByteArray) (w : World) (R : RScrAt w v s) (h1 : d.data.toList.head? ≠ some 102) (h2 : d.size < 3 ∨ d.data.toList.head? ≠ some 100) :
    Calls Try.prog 32 #[v, .string d] w fun e w' => RDPost s d w e w' := by
  have HNO := Lib.hid (doL_no s d.data.toList h1 h2)
  obtain ⟨b1, o1, c1, rfl, _, _⟩ := R
  by_cases h0 : d.size = 0
  · have h0i : (d.size : Int) = 0 := by omega
    clear h1 h2
    go_enter Try.func32, Try.ntmps32
    go_wp2_with fail
    refine bodyPost_ret (v := .tuple #[RV 0 0 0 0 (.slice none 0 0), .bool false]) ?_ rfl (.inl ⟨HNO.out, rfl, ?_⟩)
    · simp [results, Try.results32, go_sem]
    · repeat (first | (with_reducible assumption) | (with_reducible exact Below.refl _ _) | with_reducible apply bl_drewN | with_reducible apply Below.drew | (with_reducible apply bl_alloc; focus (first | (simp; done) | (simp; omega) | omega)) | (with_reducible apply bl_set; focus (first | (simp; done) | (simp; omega) | omega)))
  · have h0i : ¬ (d.size : Int) = 0 := by omega
    have g0 : 0 < d.size := by omega
    have k0 : (0 : Int) < d.size := by omega
    have k1 : (1 : Int) ≤ d.size := by omega
    obtain ⟨c, hc⟩ : ∃ c, d[0] = c := ⟨_, rfl⟩
    have hhead : d.data.toList.head? = some c := by
      have h5 := ba_getD d 0 g0
      rw [hc] at h5
      cases hl : d.data.toList with
      | nil => have : d.data.toList.length = d.size := rfl; rw [hl] at this; simp at this; omega
      | cons a l => rw [hl] at h5; simp at h5; simp [h5]
    rw [hhead] at h1 h2
    have n102 : ¬ (c.toNat : Int) = 102 := fun h => h1 (by congr 1; exact UInt8.toNat_inj.1 (by show c.toNat = 102; omega))
    by_cases h100 : c.toNat = 100
    · have e100 : (c.toNat : Int) = 100 := by omega
      have h3 : (d.size : Int) < 3 := by
        rcases h2 with h | h
        · omega
        · exact absurd (by congr 1; exact UInt8.toNat_inj.1 (by show c.toNat = 100; omega)) h
      clear h1 h2 hhead h100 n102
      go_enter Try.func32, Try.ntmps32
      go_wp2_with fail
      refine bodyPost_ret (v := .tuple #[RV 0 0 0 0 (.slice none 0 0), .bool false]) ?_ rfl (.inl ⟨HNO.out, rfl, ?_⟩)
      · simp [results, Try.results32, go_sem]
      · repeat (first | (with_reducible assumption) | (with_reducible exact Below.refl _ _) | with_reducible apply bl_drewN | with_reducible apply Below.drew | (with_reducible apply bl_alloc; focus (first | (simp; done) | (simp; omega) | omega)) | (with_reducible apply bl_set; focus (first | (simp; done) | (simp; omega) | omega)))
    · have e100 : ¬ (c.toNat : Int) = 100 := by omega
      clear h1 h2 hhead h100
      go_enter Try.func32, Try.ntmps32
      go_wp2_with fail
      refine bodyPost_ret (v := .tuple #[RV 0 0 0 0 (.slice none 0 0), .bool false]) ?_ rfl (.inl ⟨HNO.out, rfl, ?_⟩)
      · simp [results, Try.results32, go_sem]
      · repeat (first | (with_reducible assumption) | (with_reducible exact Below.refl _ _) | with_reducible apply bl_drewN | with_reducible apply Below.drew | (with_reducible apply bl_alloc; focus (first | (simp; done) | (simp; omega) | omega)) | (with_reducible apply bl_set; focus (first | (simp; done) | (simp; omega) | omega)))


set_option maxHeartbeats 8000000 in
set_option maxRecDepth 20000 in
theorem rdo_whole (s : Scr) (v : Value) (d : ByteArray) (r : List UInt8) (w : World) (R : RScrAt w v s) (hs : s.Ok) (hd : d.size ≤ 10000) (hl : d.data.toList = 102 :: r) :
    Calls Try.prog 32 #[v, .string d] w fun e w' => RDPost s d w e w' := by
  have hsz : d.size = r.length + 1 := by show d.data.toList.length = _; rw [hl]; rfl
  obtain ⟨T, hT⟩ : ∃ x, d.extract 1 d.size = x := ⟨_, rfl⟩
  have hTl : T.data.toList = r := by rw [← hT, ba_extract, hl]; simp [hsz]
  have HRES := Lib.hid (show doL s d.data.toList = chkL s d.data.toList T.data.toList by rw [hl, doL_f, hTl])
  have HTS := Lib.hid (show T.size ≤ 100000 by rw [← hT, ByteArray.size_extract]; omega)
  have HSOK := Lib.hid hs
  have HR0 := Lib.hid R
  have g0 : 0 < d.size := by omega
  have k0 : (0 : Int) < d.size := by omega
  have k1 : (1 : Int) ≤ d.size := by omega
  have h0i : ¬ (d.size : Int) = 0 := by omega
  have i0 : d[0] = 102 := by have h5 := ba_getD d 0 g0; rw [hl] at h5; exact h5.symm
  obtain ⟨b1, o1, c1, rfl, hc1, hr1⟩ := R
  clear hl hsz hTl hs hd hc1 hr1
  go_enter Try.func32, Try.ntmps32
  go_upto_region 24 with fail
  refine wp_absQ (fun W => Below w.heap.size w W ∧ Blk W w.heap.size #[.int .i64 s.w, .int .i64 s.h, .int .i64 s.x, .int .i64 s.y, .slice (some ⟨b1, o1, none⟩) s.h c1] 41 ∧ Blk W (w.heap.size + 1) z41 41) ⟨by (repeat (first | (with_reducible assumption) | (with_reducible exact Below.refl _ _) | with_reducible apply bl_drewN | with_reducible apply Below.drew | (with_reducible apply bl_alloc; focus (first | (simp; done) | (simp; omega) | omega)) | (with_reducible apply bl_set; focus (first | (simp; done) | (simp; omega) | omega)))), by (repeat (first | (with_reducible assumption) | (with_reducible apply Blk.new'; (first | (with_reducible rfl) | (simp; done))) | with_reducible apply Blk.alloc | with_reducible apply Blk.set | ((with_reducible apply Blk.set_ne); focus (first | (simp; done) | (simp; omega))) | with_reducible apply Blk.drewN | with_reducible apply Blk.drew)), by (repeat (first | (with_reducible assumption) | (with_reducible apply Blk.new'; (first | (with_reducible rfl) | (simp; done))) | with_reducible apply Blk.alloc | with_reducible apply Blk.set | ((with_reducible apply Blk.set_ne); focus (first | (simp; done) | (simp; omega))) | with_reducible apply Blk.drewN | with_reducible apply Blk.drew))⟩ (fun W1 h1 => ?_)
  obtain ⟨HB1, B1, B2⟩ := h1
  have HBc := HB1
  have HBcs := HBc.size
  have C1c := B1.cell; have C1l := B1.lt; have C2c := B2.cell; have C2l := B2.lt; have C2f := B2.frozen
  go_wp2_with fail
  refine (rparse_any T _ HTS.out).mono ?_
  rintro e W9 (⟨hpn, rfl, hb⟩ | ⟨b, vb, hps, rfl, Rb, hb⟩)
  · have HNO := Lib.hid (show doL s d.data.toList = none by rw [HRES.out]; unfold chkL; rw [txt_list, hpn])
    have HB9 := Below.thn HBc hb HBcs
    have B29 := B2.below hb
    have HB9s := HB9.size
    clear HBc HBcs C1c C1l C2c C2l C2f hb hpn
    have B29c := B29.cell; have B29l := B29.lt; have B29f := B29.frozen
    go_wp2_with fail
    refine bodyPost_ret (v := .tuple #[RV 0 0 0 0 (.slice none 0 0), .bool false]) ?_ rfl (.inl ⟨HNO.out, rfl, ?_⟩)
    · first | (simp [results, Try.results32, go_sem, B29c]; done) | simp [results, Try.results32, go_sem, B29c, B29l]
    · repeat (first | (with_reducible assumption) | (with_reducible exact Below.refl _ _) | with_reducible apply bl_drewN | with_reducible apply Below.drew | (with_reducible apply bl_alloc; focus (first | (simp; done) | (simp; omega) | omega)) | (with_reducible apply bl_set; focus (first | (simp; done) | (simp; omega) | omega)))
  · have hbok := parse_okS _ b hps
    have hres2 : doL s d.data.toList = if ofL s b = d.data.toList then some b else none := by rw [HRES.out]; unfold chkL; rw [txt_list, hps]
    have HRES2 := Lib.hid hres2
    have HBOK := Lib.hid hbok
    obtain ⟨bb, ob, cb, rfl, hcb, hrb⟩ := Rb
    have HRB := Lib.hid (And.intro hcb hrb)
    have HB9 := Below.thn HBc hb HBcs
    have B19 := B1.below hb
    have B29 := B2.below hb
    have HB9s := HB9.size
    obtain ⟨Bw, hBw⟩ : ∃ x, b.w = x := ⟨_, rfl⟩
    obtain ⟨Bh, hBh⟩ : ∃ x, b.h = x := ⟨_, rfl⟩
    obtain ⟨Bx, hBx⟩ : ∃ x, b.x = x := ⟨_, rfl⟩
    obtain ⟨By, hBy⟩ : ∃ x, b.y = x := ⟨_, rfl⟩
    have R9 : RScrAt W9 (RV Bw Bh Bx By (.slice (some ⟨bb, ob, none⟩) Bh cb)) b := ⟨bb, ob, cb, by rw [hBw, hBh, hBx, hBy], hcb, hrb⟩
    rw [hBw, hBh, hBx, hBy]
    clear hBw hBh hBx hBy hcb hrb HBc HBcs C1c C1l C2c C2l C2f hb hps hbok hres2
    have hne : bb ≠ w.heap.size + 1 := rowAt_ne HRB.out.2 (by rw [rowsL_length]; have := HBOK.out.h1; omega) B29 (no_text5 (by simp) (by simp) (by simp) (by simp) (by simp))
    have B19c := B19.cell; have B19l := B19.lt
    go_upto_region 25 with fail
    refine wp_absQ (fun W => Below w.heap.size w W ∧ Blk W w.heap.size _ 41 ∧ Blk W (w.heap.size + 1) z41 41 ∧ Blk W W9.heap.size #[.int .i64 Bw, .int .i64 Bh, .int .i64 Bx, .int .i64 By, .slice (some ⟨bb, ob, none⟩) Bh cb] 41 ∧ RScrAt W (RV Bw Bh Bx By (.slice (some ⟨bb, ob, none⟩) Bh cb)) b) ⟨by (repeat (first | (with_reducible assumption) | (with_reducible exact Below.refl _ _) | with_reducible apply bl_drewN | with_reducible apply Below.drew | (with_reducible apply bl_alloc; focus (first | (simp; done) | (simp; omega) | omega)) | (with_reducible apply bl_set; focus (first | (simp; done) | (simp; omega) | omega)))), by (repeat (first | (with_reducible assumption) | (with_reducible apply Blk.new'; (first | (with_reducible rfl) | (simp; done))) | with_reducible apply Blk.alloc | with_reducible apply Blk.set | ((with_reducible apply Blk.set_ne); focus (first | (simp; done) | (simp; omega))) | with_reducible apply Blk.drewN | with_reducible apply Blk.drew)), by (repeat (first | (with_reducible assumption) | (with_reducible apply Blk.new'; (first | (with_reducible rfl) | (simp; done))) | with_reducible apply Blk.alloc | with_reducible apply Blk.set | ((with_reducible apply Blk.set_ne); focus (first | (simp; done) | (simp; omega))) | with_reducible apply Blk.drewN | with_reducible apply Blk.drew)), by (repeat (first | (with_reducible assumption) | (with_reducible apply Blk.new'; (first | (with_reducible rfl) | (simp; done))) | with_reducible apply Blk.alloc | with_reducible apply Blk.set | ((with_reducible apply Blk.set_ne); focus (first | (simp; done) | (simp; omega))) | with_reducible apply Blk.drewN | with_reducible apply Blk.drew)), R9.below (by (repeat (first | (with_reducible assumption) | (with_reducible exact Below.refl _ _) | with_reducible apply bl_drewN | with_reducible apply Below.drew | (with_reducible apply bl_alloc; focus (first | (simp; done) | (simp; omega) | omega)) | (with_reducible apply bl_set; focus (first | (simp; done) | (simp; omega) | omega)))))⟩ (fun W10 h10 => ?_)
    obtain ⟨HB10, B110, B210, B310, R10⟩ := h10
    have HB10s := HB10.size
    clear HB9 B19 B29 HB9s R9 B19c B19l
    have B110c := B110.cell; have B110l := B110.lt; have B310c := B310.cell; have B310l := B310.lt
    go_wp2_with fail
    refine (rof_any s b _ _ _ (HR0.out.below HB10) R10 HSOK.out HBOK.out).mono ?_
    rintro e W11 ⟨rfl, hb⟩
    have HB11 := Below.thn HB10 hb HB10s
    have B211 := B210.below hb
    have B311 := B310.below hb
    have R11 := R10.below hb
    have HB11s := HB11.size
    clear hb HB10 B110 B210 B310 R10 HB10s B110c B110l B310c B310l HRB
    have B211c := B211.cell; have B211l := B211.lt; have B211f := B211.frozen; have B311c := B311.cell; have B311l := B311.lt
    by_cases hq : ofL s b = d.data.toList
    · have hq5 : (⟨(ofL s b).toArray⟩ : ByteArray) = d := by rw [hq, txt_list]
      have HSOME := Lib.hid (show doL s d.data.toList = some b by rw [HRES2.out, if_pos hq])
      rw [hq5]
      clear hq hq5
      go_wp2_with fail
      refine bodyPost_ret (v := .tuple #[RV Bw Bh Bx By (.slice (some ⟨bb, ob, none⟩) Bh cb), .bool true]) ?_ rfl (.inr ⟨b, _, HSOME.out, rfl, ?_, ?_⟩)
      · first | (simp [results, Try.results32, go_sem, B211c]; done) | simp [results, Try.results32, go_sem, B211c, B211l]
      · obtain ⟨b', o', c', hv', hc', hr'⟩ := R11
        have hv2 := hv'
        simp at hv2
        have hb' : b' ≠ w.heap.size + 1 := by rw [← hv2.2.2.2.2.1.1]; exact hne
        exact ⟨b', o', c', hv', hc', ((((hr'.set_ne hb' _).set_ne hb' _).set_ne hb' _).set_ne hb' _).set_ne hb' _⟩
      · repeat (first | (with_reducible assumption) | (with_reducible exact Below.refl _ _) | with_reducible apply bl_drewN | with_reducible apply Below.drew | (with_reducible apply bl_alloc; focus (first | (simp; done) | (simp; omega) | omega)) | (with_reducible apply bl_set; focus (first | (simp; done) | (simp; omega) | omega)))
    · have q1 : ((⟨(ofL s b).toArray⟩ : ByteArray).toList == d.toList) = false := by
        rw [ba_toList, ba_toList, beq_eq_false_iff_ne]
        exact hq
      have HNO := Lib.hid (show doL s d.data.toList = none by rw [HRES2.out, if_neg hq])
      clear hq
      generalize (⟨(ofL s b).toArray⟩ : ByteArray) = qd at *
      go_wp2_with fail
      refine bodyPost_ret (v := .tuple #[RV 0 0 0 0 (.slice none 0 0), .bool false]) ?_ rfl (.inl ⟨HNO.out, rfl, ?_⟩)
      · first | (simp [results, Try.results32, go_sem, B211c]; done) | simp [results, Try.results32, go_sem, B211c, B211l]
      · repeat (first | (with_reducible assumption) | (with_reducible exact Below.refl _ _) | with_reducible apply bl_drewN | with_reducible apply Below.drew | (with_reducible apply bl_alloc; focus (first | (simp; done) | (simp; omega) | omega)) | (with_reducible apply bl_set; focus (first | (simp; done) | (simp; omega) | omega)))

/-- The loop's state. -/
structure QAt (w wr : World) (C1 : Array Value) (G : Nat) (cells : List UInt8) : Prop where
  HB : Below w.heap.size w wr
  B1 : Blk wr w.heap.size C1 41
  B2 : Blk wr (w.heap.size + 1) z41 41
  row : BRow wr G cells
  g1 : w.heap.size + 1 < G
theorem QAt.below {w wr w' : World} {C1 : Array Value} {G : Nat} {cells : List UInt8} (h : QAt w wr C1 G cells) (hb : Below wr.heap.size wr w') : QAt w w' C1 G cells :=
  ⟨Below.thn h.HB hb h.HB.size, h.B1.below hb, h.B2.below hb, h.row.below hb, h.g1⟩
theorem QAt.set {w wr : World} {C1 : Array Value} {G : Nat} {cells : List UInt8} (h : QAt w wr C1 G cells) {k : Nat} (hk : k < cells.length) (c : UInt8) : QAt w (wr.setCell ⟨G, k, none⟩ (bval c)) C1 G (cells.set k c) :=
  ⟨h.HB.setCell (p := ⟨G, k, none⟩) (by have := h.g1; show w.heap.size ≤ G; omega) _, h.B1.set_ne (by have := h.g1; show w.heap.size ≠ G; omega), h.B2.set_ne (by have := h.g1; show w.heap.size + 1 ≠ G; omega), h.row.set hk c, h.g1⟩
theorem patch_set (cells sl : List UInt8) (o i : Nat) (ho : o + i < cells.length) (hi : i < sl.length) :
    (cells.take o ++ sl.take i ++ cells.drop (o + i)).set (o + i) (sl.getD i 0) = cells.take o ++ sl.take (i + 1) ++ cells.drop (o + (i + 1)) := by
  have h1 : (cells.take o ++ sl.take i).length = o + i := by rw [List.length_append, List.length_take, List.length_take]; omega
  rw [List.set_append_right _ _ (by omega), h1, Nat.sub_self, List.drop_eq_getElem_cons ho, List.set_cons_zero]
  have e : sl.take (i + 1) = sl.take i ++ [sl[i]] := by rw [List.take_add_one, List.getElem?_eq_getElem hi]; rfl
  rw [e, List.getD_eq_getElem?_getD, List.getElem?_eq_getElem hi]
  simp only [List.append_assoc, List.singleton_append, Option.getD_some, Nat.add_assoc, List.cons_append, List.nil_append]

set_option maxHeartbeats 16000000 in
set_option maxRecDepth 20000 in
theorem rdo_parts (s : Scr) (v : Value) (d : ByteArray) (w : World) (R : RScrAt w v s) (hs : s.Ok) (hd : d.size ≤ 10000) (x0 y0 : UInt8) (r : List UInt8) (hl : d.data.toList = 100 :: x0 :: y0 :: r) :
    Calls Try.prog 32 #[v, .string d] w fun e w' => RDPost s d w e w' := by
  have hsz : d.size = 3 + r.length := by show d.data.toList.length = _; rw [hl]; simp; omega
  have hdo := doL_d s x0 y0 r
  rw [← hl] at hdo
  obtain ⟨q, hq⟩ : ∃ r : ByteArray, r = ⟨#[UInt8.ofNat s.w, UInt8.ofNat s.h, x0, y0]⟩ := ⟨_, rfl⟩
  have hfail : appD s.w s.h s.b r = none → doL s d.data.toList = none := fun h => by rw [hdo, h]
  have hdone : ∀ cells, appD s.w s.h s.b r = some cells → doL s d.data.toList = chkL s d.data.toList (q ++ txt cells).data.toList := fun cells h => by
    have e : (q ++ txt cells).data.toList = [UInt8.ofNat s.w, UInt8.ofNat s.h, x0, y0] ++ cells := by rw [ba_app, hq]; rfl
    rw [hdo, h, e]
  have HSOK := Lib.hid hs
  have HR0 := Lib.hid R
  have HC := Lib.hid (fun W (hb : Below w.heap.size w W) => rcells_any s v W (R.below hb) hs.dk)
  have g0 : 0 < d.size := by omega
  have g1 : 1 < d.size := by omega
  have g2 : 2 < d.size := by omega
  have k0 : (0 : Int) < d.size := by omega
  have k01 : (1 : Int) ≤ d.size := by omega
  have k1 : (1 : Int) < d.size := by omega
  have k2 : (2 : Int) < d.size := by omega
  have h0i : ¬ (d.size : Int) = 0 := by omega
  have h3i : ¬ (d.size : Int) < 3 := by omega
  have i0 : d[0] = 100 := by have h5 := ba_getD d 0 g0; rw [hl] at h5; exact h5.symm
  have i1 : d[1] = x0 := by have h5 := ba_getD d 1 g1; rw [hl] at h5; exact h5.symm
  have i2 : d[2] = y0 := by have h5 := ba_getD d 2 g2; rw [hl] at h5; exact h5.symm
  have hdrop : d.data.toList.drop 3 = r := by rw [hl]; rfl
  obtain ⟨b1, o1, c1, rfl, hc1, hr1⟩ := R
  obtain ⟨cw, hcw⟩ : ∃ k, s.w = k := ⟨_, rfl⟩
  obtain ⟨ch, hch⟩ : ∃ k, s.h = k := ⟨_, rfl⟩
  have w1 : 1 ≤ cw := by rw [← hcw]; exact hs.w1
  have w2 : cw ≤ 80 := by rw [← hcw]; exact hs.w2
  have h1 : 1 ≤ ch := by rw [← hch]; exact hs.h1
  have h2 : ch ≤ 24 := by rw [← hch]; exact hs.h2
  have hsl := hs.len
  rw [hcw, hch] at hfail hdone hsl hq HR0 HC ⊢
  obtain ⟨sx, hsx⟩ : ∃ k, s.x = k := ⟨_, rfl⟩
  obtain ⟨sy, hsy⟩ : ∃ k, s.y = k := ⟨_, rfl⟩
  obtain ⟨sb, hsb⟩ : ∃ k, s.b = k := ⟨_, rfl⟩
  rw [hsx, hsy] at HR0 HC ⊢
  rw [hsb] at hfail hdone hsl HC
  obtain ⟨t0, ht0⟩ : ∃ t, txt sb = t := ⟨_, rfl⟩
  rw [ht0] at HC
  obtain ⟨n, hn⟩ : ∃ n, cw * ch = n := ⟨_, rfl⟩
  have hn2 : n ≤ 1920 := by rw [← hn]; exact wh_small w2 h2
  rw [hn] at hsl
  have hcv := conv_any t0
  rw [show t0.size = n by rw [← ht0, txt_size]; exact hsl] at hcv
  have HFAIL := Lib.hid hfail; have HDONE := Lib.hid hdone; have HD3 := Lib.hid hdrop; have HQ := Lib.hid hq; have HT0 := Lib.hid ht0; have HSL := Lib.hid hsl; have HN := Lib.hid hn; have HSZ := Lib.hid hsz
  clear hfail hdone hdrop hq ht0 hsl hn hdo hl hcw hch hsx hsy hsb hs hsz hc1 hr1
  go_enter Try.func32, Try.ntmps32
  go_upto_region 7 with fail
  refine wp_absQ (fun W => Below w.heap.size w W ∧ Blk W w.heap.size #[.int .i64 cw, .int .i64 ch, .int .i64 sx, .int .i64 sy, .slice (some ⟨b1, o1, none⟩) ch c1] 41 ∧ Blk W (w.heap.size + 1) z41 41) ⟨by (repeat (first | (with_reducible assumption) | (with_reducible exact Below.refl _ _) | with_reducible apply bl_drewN | with_reducible apply Below.drew | (with_reducible apply bl_alloc; focus (first | (simp; done) | (simp; omega) | omega)) | (with_reducible apply bl_set; focus (first | (simp; done) | (simp; omega) | omega)))), by (repeat (first | (with_reducible assumption) | (with_reducible apply Blk.new'; (first | (with_reducible rfl) | (simp; done))) | with_reducible apply Blk.alloc | with_reducible apply Blk.set | ((with_reducible apply Blk.set_ne); focus (first | (simp; done) | (simp; omega))) | with_reducible apply Blk.drewN | with_reducible apply Blk.drew)), by (repeat (first | (with_reducible assumption) | (with_reducible apply Blk.new'; (first | (with_reducible rfl) | (simp; done))) | with_reducible apply Blk.alloc | with_reducible apply Blk.set | ((with_reducible apply Blk.set_ne); focus (first | (simp; done) | (simp; omega))) | with_reducible apply Blk.drewN | with_reducible apply Blk.drew))⟩ (fun W1 h5 => ?_)
  obtain ⟨HB1, B1, B2⟩ := h5
  have HB1s := HB1.size
  have B1c := B1.cell; have B1l := B1.lt
  go_wp2_with fail
  refine (HC.out _ HB1).mono ?_
  rintro e wd ⟨rfl, hb⟩
  have HB4 := Below.thn HB1 hb HB1s
  have B14 := B1.below hb
  have B24 := B2.below hb
  have HB4s := HB4.size
  clear hb HB1 HB1s B1 B2 B1c B1l
  have V0 : QAt w (Lib.bytesWorld wd 5 t0) #[.int .i64 cw, .int .i64 ch, .int .i64 sx, .int .i64 sy, .slice (some ⟨b1, o1, none⟩) ch c1] wd.heap.size sb := by
    have hb := conv_below wd 5 t0
    have l2 := B24.lt
    refine ⟨Below.thn HB4 hb, B14.below hb, B24.below hb, ?_, l2⟩
    have := conv_row wd 5 t0
    rw [← HT0.out] at this ⊢
    simpa [txt] using this
  have hcap := grownCap_ge wd n 0 5
  go_upto_region 8 with fail
  generalize Lib.bytesWorld wd 5 t0 = W0 at *
  generalize grownCap wd n 0 5 = cap at *
  generalize wd.heap.size = G at *
  clear HB4 HB4s B14 B24 hcv
  go_wp2_with fail
  go_loopg [8] d.size (fun g t8 wr => ∃ (p : Nat) (cells : List UInt8), t8 = .int .i64 p ∧ d.size ≤ p + g ∧ 3 ≤ p ∧ p ≤ d.size ∧ appD cw ch sb r = appD cw ch cells (d.data.toList.drop p) ∧ cells.length = n ∧ QAt w wr #[.int .i64 cw, .int .i64 ch, .int .i64 sx, .int .i64 sy, .slice (some ⟨b1, o1, none⟩) ch c1] G cells)
  case atStart => exact ⟨3, sb, rfl, by omega, by omega, by omega, by rw [HD3.out], HSL.out, V0⟩
  case round =>
    clear V0
    obtain ⟨p, cells, rfl, hg, hp3, hpd, happ, hcl, V⟩ := hrel
    have HAPP := Lib.hid happ
    have HCL := Lib.hid hcl
    have HG := Lib.hid hg
    have HBs := V.HB.size
    have B1c := V.B1.cell; have B1l := V.B1.lt
    have B2c := V.B2.cell; have B2f := V.B2.frozen; have B2l := V.B2.lt
    clear happ hcl
    by_cases hpe : p = d.size
    · subst hpe
      have hap := HAPP.out
      rw [List.drop_of_length_le (show d.data.toList.length ≤ d.size from Nat.le_refl _), appD_nil] at hap
      obtain ⟨T, hT⟩ : ∃ T, q ++ txt cells = T := ⟨_, rfl⟩
      have hres := HDONE.out cells hap
      rw [hT] at hres
      have HRES := Lib.hid hres
      have hqs : q.size = 4 := by rw [HQ.out]; rfl
      have hts : T.size ≤ 100000 := by rw [← hT, ByteArray.size_append, txt_size, HCL.out]; omega
      have HTS := Lib.hid hts
      have hcvq : ∀ (W : World) (b : Nat), Blk W b #[.int .u8 cw, .int .u8 ch, .int .u8 x0.toNat, .int .u8 y0.toNat] 5 → (convert 34 9 (.slice (some ⟨b, 0, none⟩) 4 4)).run Try.prog W = .ok (.string q) W := fun W b B => by
        have hx8 := x0.toNat_lt; have hy8 := y0.toNat_lt
        have hrow := row_four (by omega) (by omega) (by omega) (by omega) B
        rw [UInt8.ofNat_toNat, UInt8.ofNat_toNat] at hrow
        rw [HQ.out]
        exact Lib.run_convert_whole (P := Try.prog) W 34 5 9 Try.underlying34 Try.underlying5 Try.underlying9 b 0 _ (row_bytes hrow) 4
      have hcvc : ∀ (W : World), BRow W G cells → (convert 34 9 (.slice (some ⟨G, 0, none⟩) n cap)).run Try.prog W = .ok (.string (txt cells)) W := fun W B => by
        have h5 := Lib.run_convert_whole (P := Try.prog) W 34 5 9 Try.underlying34 Try.underlying5 Try.underlying9 G 0 (txt cells) (row_bytes B) cap
        rw [txt_size, HCL.out] at h5
        exact h5
      have radd : ∀ W, (Op.stringOp .add q (txt cells)).run Try.prog W = .ok (.string T) W := fun W => by rw [← hT]; exact run_string_add_sum W _ _ (by rw [txt_size, HCL.out]; omega)
      have HCVQ := Lib.hid hcvq; have HCVC := Lib.hid hcvc; have RADD := Lib.hid radd
      have BAx := V.B1
      have hpf : ¬ (d.size : Int) < d.size := by omega
      clear hap hcvq hcvc radd hT hres hqs hts B1c B1l B2c B2f B2l hp3 hg
      go_wp2_with fail
      refine wp_region_typed 15 (fun k => match k with | 11 => [10] | _ => []) (fun k => match k with  | _ => false) (fun k => match k with | 10 => some ⟨(Nat), (0), (fun b => .slice (some ⟨b, 0, none⟩) 4 4), (fun b w => Blk w b #[.int .u8 cw, .int .u8 ch, .int .u8 x0.toNat, .int .u8 y0.toNat] 5), (fun b w w' h hb => h.below hb)⟩ | 11 => some ⟨(Unit), (()), (fun _ => .string q), (fun _ _ => True), (fun _ _ _ h _ => h)⟩ | 13 => some ⟨(Unit), (()), (fun _ => .string (txt cells)), (fun _ _ => True), (fun _ _ _ h _ => h)⟩ | 14 => some ⟨(Unit), (()), (fun _ => .string T), (fun _ _ => True), (fun _ _ _ h _ => h)⟩ | _ => none) (by kernel_rfl) (by kernel_rfl) (by intro d0 v0 c0 a0 w0 h0; cases d0 <;> exact h0) ?_
      rw [show List.range 15 = [0, 1, 2, 3, 4, 5, 6, 7, 8, 9, 10, 11, 12, 13, 14] from rfl]
      first
        | (refine ty_skip rfl rfl ?_; (try simp only [Act.put, List.setIfInBounds_toArray, List.set_cons_zero, List.set_cons_succ]))
        | (refine ty_pure rfl rfl rfl rfl ?_; apply Exists.intro; refine ⟨fun wq hq hk => ?_, ?_⟩
           · have f0 := hq.blk BAx; simp only [pureAt]; go_simp; (try simp only [↓IntWalk.iteOmega]); (try go_bits); (try simp only [pureUpon]); (first | done | exact ⟨rfl, rfl⟩ | exact ⟨trivial, rfl⟩ | rfl)
           (try simp only [Act.put, List.setIfInBounds_toArray, List.set_cons_zero, List.set_cons_succ]))
      first
        | (refine ty_skip rfl rfl ?_; (try simp only [Act.put, List.setIfInBounds_toArray, List.set_cons_zero, List.set_cons_succ]))
        | (refine ty_pure rfl rfl rfl rfl ?_; apply Exists.intro; refine ⟨fun wq hq hk => ?_, ?_⟩
           · have f0 := hq.blk BAx; simp only [pureAt]; go_simp; (try simp only [↓IntWalk.iteOmega]); (try go_bits); (try simp only [pureUpon]); (first | done | exact ⟨rfl, rfl⟩ | exact ⟨trivial, rfl⟩ | rfl)
           (try simp only [Act.put, List.setIfInBounds_toArray, List.set_cons_zero, List.set_cons_succ]))
      first
        | (refine ty_skip rfl rfl ?_; (try simp only [Act.put, List.setIfInBounds_toArray, List.set_cons_zero, List.set_cons_succ]))
        | (refine ty_pure rfl rfl rfl rfl ?_; apply Exists.intro; refine ⟨fun wq hq hk => ?_, ?_⟩
           · have f0 := hq.blk BAx; simp only [pureAt]; go_simp; (try simp only [↓IntWalk.iteOmega]); (try go_bits); (try simp only [pureUpon]); (first | done | exact ⟨rfl, rfl⟩ | exact ⟨trivial, rfl⟩ | rfl)
           (try simp only [Act.put, List.setIfInBounds_toArray, List.set_cons_zero, List.set_cons_succ]))
      first
        | (refine ty_skip rfl rfl ?_; (try simp only [Act.put, List.setIfInBounds_toArray, List.set_cons_zero, List.set_cons_succ]))
        | (refine ty_pure rfl rfl rfl rfl ?_; apply Exists.intro; refine ⟨fun wq hq hk => ?_, ?_⟩
           · have f0 := hq.blk BAx; simp only [pureAt]; go_simp; (try simp only [↓IntWalk.iteOmega]); (try go_bits); (try simp only [pureUpon]); (first | done | exact ⟨rfl, rfl⟩ | exact ⟨trivial, rfl⟩ | rfl)
           (try simp only [Act.put, List.setIfInBounds_toArray, List.set_cons_zero, List.set_cons_succ]))
      first
        | (refine ty_skip rfl rfl ?_; (try simp only [Act.put, List.setIfInBounds_toArray, List.set_cons_zero, List.set_cons_succ]))
        | (refine ty_pure rfl rfl rfl rfl ?_; apply Exists.intro; refine ⟨fun wq hq hk => ?_, ?_⟩
           · have f0 := hq.blk BAx; simp only [pureAt]; go_simp; (try simp only [↓IntWalk.iteOmega]); (try go_bits); (try simp only [pureUpon]); (first | done | exact ⟨rfl, rfl⟩ | exact ⟨trivial, rfl⟩ | rfl)
           (try simp only [Act.put, List.setIfInBounds_toArray, List.set_cons_zero, List.set_cons_succ]))
      first
        | (refine ty_skip rfl rfl ?_; (try simp only [Act.put, List.setIfInBounds_toArray, List.set_cons_zero, List.set_cons_succ]))
        | (refine ty_pure rfl rfl rfl rfl ?_; apply Exists.intro; refine ⟨fun wq hq hk => ?_, ?_⟩
           · have f0 := hq.blk BAx; simp only [pureAt]; go_simp; (try simp only [↓IntWalk.iteOmega]); (try go_bits); (try simp only [pureUpon]); (first | done | exact ⟨rfl, rfl⟩ | exact ⟨trivial, rfl⟩ | rfl)
           (try simp only [Act.put, List.setIfInBounds_toArray, List.set_cons_zero, List.set_cons_succ]))
      first
        | (refine ty_skip rfl rfl ?_; (try simp only [Act.put, List.setIfInBounds_toArray, List.set_cons_zero, List.set_cons_succ]))
        | (refine ty_pure rfl rfl rfl rfl ?_; apply Exists.intro; refine ⟨fun wq hq hk => ?_, ?_⟩
           · have f0 := hq.blk BAx; simp only [pureAt]; go_simp; (try simp only [↓IntWalk.iteOmega]); (try go_bits); (try simp only [pureUpon]); (first | done | exact ⟨rfl, rfl⟩ | exact ⟨trivial, rfl⟩ | rfl)
           (try simp only [Act.put, List.setIfInBounds_toArray, List.set_cons_zero, List.set_cons_succ]))
      first
        | (refine ty_skip rfl rfl ?_; (try simp only [Act.put, List.setIfInBounds_toArray, List.set_cons_zero, List.set_cons_succ]))
        | (refine ty_pure rfl rfl rfl rfl ?_; apply Exists.intro; refine ⟨fun wq hq hk => ?_, ?_⟩
           · have f0 := hq.blk BAx; simp only [pureAt]; go_simp; (try simp only [↓IntWalk.iteOmega]); (try go_bits); (try simp only [pureUpon]); (first | done | exact ⟨rfl, rfl⟩ | exact ⟨trivial, rfl⟩ | rfl)
           (try simp only [Act.put, List.setIfInBounds_toArray, List.set_cons_zero, List.set_cons_succ]))
      first
        | (refine ty_skip rfl rfl ?_; (try simp only [Act.put, List.setIfInBounds_toArray, List.set_cons_zero, List.set_cons_succ]))
        | (refine ty_pure rfl rfl rfl rfl ?_; apply Exists.intro; refine ⟨fun wq hq hk => ?_, ?_⟩
           · have f0 := hq.blk BAx; simp only [pureAt]; go_simp; (try simp only [↓IntWalk.iteOmega]); (try go_bits); (try simp only [pureUpon]); (first | done | exact ⟨rfl, rfl⟩ | exact ⟨trivial, rfl⟩ | rfl)
           (try simp only [Act.put, List.setIfInBounds_toArray, List.set_cons_zero, List.set_cons_succ]))
      first
        | (refine ty_skip rfl rfl ?_; (try simp only [Act.put, List.setIfInBounds_toArray, List.set_cons_zero, List.set_cons_succ]))
        | (refine ty_pure rfl rfl rfl rfl ?_; apply Exists.intro; refine ⟨fun wq hq hk => ?_, ?_⟩
           · have f0 := hq.blk BAx; simp only [pureAt]; go_simp; (try simp only [↓IntWalk.iteOmega]); (try go_bits); (try simp only [pureUpon]); (first | done | exact ⟨rfl, rfl⟩ | exact ⟨trivial, rfl⟩ | rfl)
           (try simp only [Act.put, List.setIfInBounds_toArray, List.set_cons_zero, List.set_cons_succ]))
      refine ty_rel rfl rfl _ rfl rfl (fun wq hq hk => ?_) ?_
      · have f0 := hq.blk BAx; simp only [relAt]; go_simp; (try simp only [relUpon]); exact .mk ((Below.refl _ _).alloc (Nat.le_refl _) _) wq.heap.size rfl (Blk.new wq _ _)
      rintro (b10 : Nat)
      (try simp only [Act.put, List.setIfInBounds_toArray, List.set_cons_zero, List.set_cons_succ])
      refine ty_rel rfl rfl _ rfl rfl (fun wq hq hk => ?_) ?_
      · have f0 := hq.blk BAx; have hr := hk _ (.head _) rfl; have hc5 := HCVQ.out wq _ hr; simp only [relAt]; go_simp; (try simp only [relUpon]); exact .mk (Below.refl _ _) () rfl trivial
      rintro ⟨⟩
      (try simp only [Act.put, List.setIfInBounds_toArray, List.set_cons_zero, List.set_cons_succ])
      first
        | (refine ty_skip rfl rfl ?_; (try simp only [Act.put, List.setIfInBounds_toArray, List.set_cons_zero, List.set_cons_succ]))
        | (refine ty_pure rfl rfl rfl rfl ?_; apply Exists.intro; refine ⟨fun wq hq hk => ?_, ?_⟩
           · have f0 := hq.blk BAx; simp only [pureAt]; go_simp; (try simp only [↓IntWalk.iteOmega]); (try go_bits); (try simp only [pureUpon]); (first | done | exact ⟨rfl, rfl⟩ | exact ⟨trivial, rfl⟩ | rfl)
           (try simp only [Act.put, List.setIfInBounds_toArray, List.set_cons_zero, List.set_cons_succ]))
      refine ty_rel rfl rfl _ rfl rfl (fun wq hq hk => ?_) ?_
      · have f0 := hq.blk BAx; have hc5 := HCVC.out wq (V.row.below hq.out); simp only [relAt]; go_simp; (try simp only [relUpon]); exact .mk (Below.refl _ _) () rfl trivial
      rintro ⟨⟩
      (try simp only [Act.put, List.setIfInBounds_toArray, List.set_cons_zero, List.set_cons_succ])
      refine ty_rel rfl rfl _ rfl rfl (fun wq hq hk => ?_) ?_
      · have f0 := hq.blk BAx; have ra5 := RADD.out wq; simp only [relAt]; go_simp; (try simp only [relUpon]); exact .mk (Below.refl _ _) () rfl trivial
      rintro ⟨⟩
      (try simp only [Act.put, List.setIfInBounds_toArray, List.set_cons_zero, List.set_cons_succ])
      refine ty_nil ?_
      simp only [List.drop_succ_cons, List.drop_zero]
      intro W8 hw8 hΓ
      have V8 := V.below hw8.out
      obtain ⟨HB8, B18, B28, _, _⟩ := V8
      clear hΓ hw8 V BAx HBs
      have HBc := HB8
      have HBcs := HBc.size
      have C1c := B18.cell; have C1l := B18.lt; have C2c := B28.cell; have C2l := B28.lt; have C2f := B28.frozen
      go_wp2_with fail
      refine (rparse_any T _ HTS.out).mono ?_
      rintro e W9 (⟨hpn, rfl, hb⟩ | ⟨b, vb, hps, rfl, Rb, hb⟩)
      · have HNO := Lib.hid (show doL s d.data.toList = none by rw [HRES.out]; unfold chkL; rw [txt_list, hpn])
        have HB9 := Below.thn HBc hb HBcs
        have B29 := B28.below hb
        have HB9s := HB9.size
        clear HBc HBcs C1c C1l C2c C2l C2f hb hpn
        have B29c := B29.cell; have B29l := B29.lt; have B29f := B29.frozen
        go_wp2_with fail
        refine bodyPost_ret (v := .tuple #[RV 0 0 0 0 (.slice none 0 0), .bool false]) ?_ rfl (.inl ⟨HNO.out, rfl, ?_⟩)
        · first | (simp [results, Try.results32, go_sem, B29c]; done) | simp [results, Try.results32, go_sem, B29c, B29l]
        · repeat (first | (with_reducible assumption) | (with_reducible exact Below.refl _ _) | with_reducible apply bl_drewN | with_reducible apply Below.drew | (with_reducible apply bl_alloc; focus (first | (simp; done) | (simp; omega) | omega)) | (with_reducible apply bl_set; focus (first | (simp; done) | (simp; omega) | omega)))
      · have hbok := parse_okS _ b hps
        have hres2 : doL s d.data.toList = if ofL s b = d.data.toList then some b else none := by rw [HRES.out]; unfold chkL; rw [txt_list, hps]
        have HRES2 := Lib.hid hres2
        have HBOK := Lib.hid hbok
        obtain ⟨bb, ob, cb, rfl, hcb, hrb⟩ := Rb
        have HRB := Lib.hid (And.intro hcb hrb)
        have HB9 := Below.thn HBc hb HBcs
        have B19 := B18.below hb
        have B29 := B28.below hb
        have HB9s := HB9.size
        obtain ⟨Bw, hBw⟩ : ∃ x, b.w = x := ⟨_, rfl⟩
        obtain ⟨Bh, hBh⟩ : ∃ x, b.h = x := ⟨_, rfl⟩
        obtain ⟨Bx, hBx⟩ : ∃ x, b.x = x := ⟨_, rfl⟩
        obtain ⟨By, hBy⟩ : ∃ x, b.y = x := ⟨_, rfl⟩
        have R9 : RScrAt W9 (RV Bw Bh Bx By (.slice (some ⟨bb, ob, none⟩) Bh cb)) b := ⟨bb, ob, cb, by rw [hBw, hBh, hBx, hBy], hcb, hrb⟩
        rw [hBw, hBh, hBx, hBy]
        clear hBw hBh hBx hBy hcb hrb HBc HBcs C1c C1l C2c C2l C2f hb hps hbok hres2
        have hne : bb ≠ w.heap.size + 1 := rowAt_ne HRB.out.2 (by rw [rowsL_length]; have := HBOK.out.h1; omega) B29 (no_text5 (by simp) (by simp) (by simp) (by simp) (by simp))
        have B19c := B19.cell; have B19l := B19.lt
        go_upto_region 25 with fail
        refine wp_absQ (fun W => Below w.heap.size w W ∧ Blk W w.heap.size _ 41 ∧ Blk W (w.heap.size + 1) z41 41 ∧ Blk W W9.heap.size #[.int .i64 Bw, .int .i64 Bh, .int .i64 Bx, .int .i64 By, .slice (some ⟨bb, ob, none⟩) Bh cb] 41 ∧ RScrAt W (RV Bw Bh Bx By (.slice (some ⟨bb, ob, none⟩) Bh cb)) b) ⟨by (repeat (first | (with_reducible assumption) | (with_reducible exact Below.refl _ _) | with_reducible apply bl_drewN | with_reducible apply Below.drew | (with_reducible apply bl_alloc; focus (first | (simp; done) | (simp; omega) | omega)) | (with_reducible apply bl_set; focus (first | (simp; done) | (simp; omega) | omega)))), by (repeat (first | (with_reducible assumption) | (with_reducible apply Blk.new'; (first | (with_reducible rfl) | (simp; done))) | with_reducible apply Blk.alloc | with_reducible apply Blk.set | ((with_reducible apply Blk.set_ne); focus (first | (simp; done) | (simp; omega))) | with_reducible apply Blk.drewN | with_reducible apply Blk.drew)), by (repeat (first | (with_reducible assumption) | (with_reducible apply Blk.new'; (first | (with_reducible rfl) | (simp; done))) | with_reducible apply Blk.alloc | with_reducible apply Blk.set | ((with_reducible apply Blk.set_ne); focus (first | (simp; done) | (simp; omega))) | with_reducible apply Blk.drewN | with_reducible apply Blk.drew)), by (repeat (first | (with_reducible assumption) | (with_reducible apply Blk.new'; (first | (with_reducible rfl) | (simp; done))) | with_reducible apply Blk.alloc | with_reducible apply Blk.set | ((with_reducible apply Blk.set_ne); focus (first | (simp; done) | (simp; omega))) | with_reducible apply Blk.drewN | with_reducible apply Blk.drew)), R9.below (by (repeat (first | (with_reducible assumption) | (with_reducible exact Below.refl _ _) | with_reducible apply bl_drewN | with_reducible apply Below.drew | (with_reducible apply bl_alloc; focus (first | (simp; done) | (simp; omega) | omega)) | (with_reducible apply bl_set; focus (first | (simp; done) | (simp; omega) | omega)))))⟩ (fun W10 h10 => ?_)
        obtain ⟨HB10, B110, B210, B310, R10⟩ := h10
        have HB10s := HB10.size
        clear HB9 B19 B29 HB9s R9 B19c B19l
        have B110c := B110.cell; have B110l := B110.lt; have B310c := B310.cell; have B310l := B310.lt
        go_wp2_with fail
        refine (rof_any s b _ _ _ (HR0.out.below HB10) R10 HSOK.out HBOK.out).mono ?_
        rintro e W11 ⟨rfl, hb⟩
        have HB11 := Below.thn HB10 hb HB10s
        have B211 := B210.below hb
        have B311 := B310.below hb
        have R11 := R10.below hb
        have HB11s := HB11.size
        clear hb HB10 B110 B210 B310 R10 HB10s B110c B110l B310c B310l HRB
        have B211c := B211.cell; have B211l := B211.lt; have B211f := B211.frozen; have B311c := B311.cell; have B311l := B311.lt
        by_cases hq : ofL s b = d.data.toList
        · have hq5 : (⟨(ofL s b).toArray⟩ : ByteArray) = d := by rw [hq, txt_list]
          have HSOME := Lib.hid (show doL s d.data.toList = some b by rw [HRES2.out, if_pos hq])
          rw [hq5]
          clear hq hq5
          go_wp2_with fail
          refine bodyPost_ret (v := .tuple #[RV Bw Bh Bx By (.slice (some ⟨bb, ob, none⟩) Bh cb), .bool true]) ?_ rfl (.inr ⟨b, _, HSOME.out, rfl, ?_, ?_⟩)
          · first | (simp [results, Try.results32, go_sem, B211c]; done) | simp [results, Try.results32, go_sem, B211c, B211l]
          · obtain ⟨b', o', c', hv', hc', hr'⟩ := R11
            have hv2 := hv'
            simp at hv2
            have hb' : b' ≠ w.heap.size + 1 := by rw [← hv2.2.2.2.2.1.1]; exact hne
            exact ⟨b', o', c', hv', hc', ((((hr'.set_ne hb' _).set_ne hb' _).set_ne hb' _).set_ne hb' _).set_ne hb' _⟩
          · repeat (first | (with_reducible assumption) | (with_reducible exact Below.refl _ _) | with_reducible apply bl_drewN | with_reducible apply Below.drew | (with_reducible apply bl_alloc; focus (first | (simp; done) | (simp; omega) | omega)) | (with_reducible apply bl_set; focus (first | (simp; done) | (simp; omega) | omega)))
        · have q1 : ((⟨(ofL s b).toArray⟩ : ByteArray).toList == d.toList) = false := by
            rw [ba_toList, ba_toList, beq_eq_false_iff_ne]
            exact hq
          have HNO := Lib.hid (show doL s d.data.toList = none by rw [HRES2.out, if_neg hq])
          clear hq
          generalize (⟨(ofL s b).toArray⟩ : ByteArray) = qd at *
          go_wp2_with fail
          refine bodyPost_ret (v := .tuple #[RV 0 0 0 0 (.slice none 0 0), .bool false]) ?_ rfl (.inl ⟨HNO.out, rfl, ?_⟩)
          · first | (simp [results, Try.results32, go_sem, B211c]; done) | simp [results, Try.results32, go_sem, B211c, B211l]
          · repeat (first | (with_reducible assumption) | (with_reducible exact Below.refl _ _) | with_reducible apply bl_drewN | with_reducible apply Below.drew | (with_reducible apply bl_alloc; focus (first | (simp; done) | (simp; omega) | omega)) | (with_reducible apply bl_set; focus (first | (simp; done) | (simp; omega) | omega)))
    · have hpi : (p : Int) < d.size := by omega
      have hpl : p < d.size := by omega
      by_cases hp3b : (d.size : Int) < (p : Int) + 3
      · have hap := HAPP.out
        have hdl : (d.data.toList.drop p).length = d.size - p := by rw [List.length_drop]; rfl
        have HNO := Lib.hid (HFAIL.out (by
          rw [hap]
          match hm : d.data.toList.drop p, hdl with
          | [], hl => simp at hl; omega
          | [_], _ => exact appD_one _ _ _ _
          | [_, _], _ => exact appD_two _ _ _ _ _
          | _ :: _ :: _ :: _, hl => simp at hl; omega))
        clear hap hdl hpe
        go_wp2_with fail
        refine bodyPost_ret (v := .tuple #[RV 0 0 0 0 (.slice none 0 0), .bool false]) ?_ rfl (.inl ⟨HNO.out, rfl, ?_⟩)
        · first | (simp [results, Try.results32, go_sem, B2c]; done) | simp [results, Try.results32, go_sem, B2c, B2l]
        · have HBV := V.HB
          repeat (first | (with_reducible assumption) | (with_reducible exact Below.refl _ _) | with_reducible apply bl_drewN | with_reducible apply Below.drew | (with_reducible apply bl_alloc; focus (first | (simp; done) | (simp; omega) | omega)) | (with_reducible apply bl_set; focus (first | (simp; done) | (simp; omega) | omega)))
      · have hp3i : ¬ (d.size : Int) < (p : Int) + 3 := hp3b
        have j1 : p + 1 < d.size := by omega
        have j2 : p + 2 < d.size := by omega
        have J1 : (p : Int) + 1 < d.size := by omega
        have J2 : (p : Int) + 2 < d.size := by omega
        obtain ⟨u0, hu0⟩ : ∃ c, d[p] = c := ⟨_, rfl⟩
        obtain ⟨u1, hu1⟩ : ∃ c, d[p + 1] = c := ⟨_, rfl⟩
        obtain ⟨u2, hu2⟩ : ∃ c, d[p + 2] = c := ⟨_, rfl⟩
        obtain ⟨sl, hsl⟩ : ∃ l, d.data.toList.drop (p + 3) = l := ⟨_, rfl⟩
        have hdr : d.data.toList.drop p = u0 :: u1 :: u2 :: sl := by
          have hp0 : p < d.data.toList.length := hpl
          have hp1 : p + 1 < d.data.toList.length := j1
          have hp2 : p + 2 < d.data.toList.length := j2
          rw [List.drop_eq_getElem_cons hp0, List.drop_eq_getElem_cons hp1, List.drop_eq_getElem_cons hp2, hsl, ← hu0, ← hu1, ← hu2]
          rfl
        have hsll : sl.length + (p + 3) = d.size := by
          rw [← hsl, List.length_drop]
          show d.size - (p + 3) + (p + 3) = d.size
          omega
        have hap := HAPP.out
        rw [hdr, appD_cons] at hap
        have HAP := Lib.hid hap
        obtain ⟨y, hy⟩ : ∃ k, u0.toNat = k := ⟨_, rfl⟩
        obtain ⟨x, hx⟩ : ∃ k, u1.toNat = k := ⟨_, rfl⟩
        obtain ⟨m, hm⟩ : ∃ k, u2.toNat = k := ⟨_, rfl⟩
        have y255 : y ≤ 255 := by have := u0.toNat_lt; omega
        have x255 : x ≤ 255 := by have := u1.toNat_lt; omega
        have m255 : m ≤ 255 := by have := u2.toNat_lt; omega
        rw [hy, hx, hm] at HAP
        have HSLL := Lib.hid hsll
        have HSL2 := Lib.hid hsl
        clear hap hdr hsll hsl hpe
        go_wp2_with fail
        have QB := V.B1
        refine wp_region_typed 14 (fun k => match k with  | _ => []) (fun k => match k with | 4 => true | 5 => true | 6 => true | 7 => true | 8 => true | 9 => true | 10 => true | 11 => true | 12 => true | 13 => true | _ => false) (fun k => match k with  | _ => none) (by kernel_rfl) (by kernel_rfl) (by intro d0 v0 c0 a0 w0 h0; cases d0 <;> exact h0) ?_
        rw [show List.range 14 = [0, 1, 2, 3, 4, 5, 6, 7, 8, 9, 10, 11, 12, 13] from rfl]
        first
          | (refine ty_skip rfl rfl ?_; (try simp only [Act.put, List.setIfInBounds_toArray, List.set_cons_zero, List.set_cons_succ]))
          | (refine ty_pure rfl rfl rfl rfl ?_; apply Exists.intro; refine ⟨fun wq hq hk => ?_, ?_⟩
             · have f0 := hq.blk QB; simp only [pureAt]; go_simp; (try simp only [↓IntWalk.iteOmega]); (try go_bits); (try simp only [pureUpon]); (first | done | exact ⟨rfl, rfl⟩ | exact ⟨trivial, rfl⟩ | rfl)
             (try simp only [Act.put, List.setIfInBounds_toArray, List.set_cons_zero, List.set_cons_succ]))
        first
          | (refine ty_skip rfl rfl ?_; (try simp only [Act.put, List.setIfInBounds_toArray, List.set_cons_zero, List.set_cons_succ]))
          | (refine ty_pure rfl rfl rfl rfl ?_; apply Exists.intro; refine ⟨fun wq hq hk => ?_, ?_⟩
             · have f0 := hq.blk QB; simp only [pureAt]; go_simp; (try simp only [↓IntWalk.iteOmega]); (try go_bits); (try simp only [pureUpon]); (first | done | exact ⟨rfl, rfl⟩ | exact ⟨trivial, rfl⟩ | rfl)
             (try simp only [Act.put, List.setIfInBounds_toArray, List.set_cons_zero, List.set_cons_succ]))
        first
          | (refine ty_skip rfl rfl ?_; (try simp only [Act.put, List.setIfInBounds_toArray, List.set_cons_zero, List.set_cons_succ]))
          | (refine ty_pure rfl rfl rfl rfl ?_; apply Exists.intro; refine ⟨fun wq hq hk => ?_, ?_⟩
             · have f0 := hq.blk QB; simp only [pureAt]; go_simp; (try simp only [↓IntWalk.iteOmega]); (try go_bits); (try simp only [pureUpon]); (first | done | exact ⟨rfl, rfl⟩ | exact ⟨trivial, rfl⟩ | rfl)
             (try simp only [Act.put, List.setIfInBounds_toArray, List.set_cons_zero, List.set_cons_succ]))
        first
          | (refine ty_skip rfl rfl ?_; (try simp only [Act.put, List.setIfInBounds_toArray, List.set_cons_zero, List.set_cons_succ]))
          | (refine ty_pure rfl rfl rfl rfl ?_; apply Exists.intro; refine ⟨fun wq hq hk => ?_, ?_⟩
             · have f0 := hq.blk QB; simp only [pureAt]; go_simp; (try simp only [↓IntWalk.iteOmega]); (try go_bits); (try simp only [pureUpon]); (first | done | exact ⟨rfl, rfl⟩ | exact ⟨trivial, rfl⟩ | rfl)
             (try simp only [Act.put, List.setIfInBounds_toArray, List.set_cons_zero, List.set_cons_succ]))
        first
          | (refine ty_skip rfl rfl ?_; (try simp only [Act.put, List.setIfInBounds_toArray, List.set_cons_zero, List.set_cons_succ]))
          | (refine ty_late rfl rfl rfl ?_; apply Exists.intro; refine ⟨fun wq => ?_, ?_⟩
             · simp only [pureAt]; go_simp; (try simp only [↓IntWalk.iteOmega]); (try go_bits); (try simp only [pureUpon]); (first | done | exact ⟨rfl, rfl⟩ | exact ⟨trivial, rfl⟩ | rfl)
             (try simp only [Act.put, List.setIfInBounds_toArray, List.set_cons_zero, List.set_cons_succ]))
        first
          | (refine ty_skip rfl rfl ?_; (try simp only [Act.put, List.setIfInBounds_toArray, List.set_cons_zero, List.set_cons_succ]))
          | (refine ty_late rfl rfl rfl ?_; apply Exists.intro; refine ⟨fun wq => ?_, ?_⟩
             · simp only [pureAt]; go_simp; (try simp only [↓IntWalk.iteOmega]); (try go_bits); (try simp only [pureUpon]); (first | done | exact ⟨rfl, rfl⟩ | exact ⟨trivial, rfl⟩ | rfl)
             (try simp only [Act.put, List.setIfInBounds_toArray, List.set_cons_zero, List.set_cons_succ]))
        first
          | (refine ty_skip rfl rfl ?_; (try simp only [Act.put, List.setIfInBounds_toArray, List.set_cons_zero, List.set_cons_succ]))
          | (refine ty_late rfl rfl rfl ?_; apply Exists.intro; refine ⟨fun wq => ?_, ?_⟩
             · simp only [pureAt]; go_simp; (try simp only [↓IntWalk.iteOmega]); (try go_bits); (try simp only [pureUpon]); (first | done | exact ⟨rfl, rfl⟩ | exact ⟨trivial, rfl⟩ | rfl)
             (try simp only [Act.put, List.setIfInBounds_toArray, List.set_cons_zero, List.set_cons_succ]))
        first
          | (refine ty_skip rfl rfl ?_; (try simp only [Act.put, List.setIfInBounds_toArray, List.set_cons_zero, List.set_cons_succ]))
          | (refine ty_late rfl rfl rfl ?_; apply Exists.intro; refine ⟨fun wq => ?_, ?_⟩
             · simp only [pureAt]; go_simp; (try simp only [↓IntWalk.iteOmega]); (try go_bits); (try simp only [pureUpon]); (first | done | exact ⟨rfl, rfl⟩ | exact ⟨trivial, rfl⟩ | rfl)
             (try simp only [Act.put, List.setIfInBounds_toArray, List.set_cons_zero, List.set_cons_succ]))
        first
          | (refine ty_skip rfl rfl ?_; (try simp only [Act.put, List.setIfInBounds_toArray, List.set_cons_zero, List.set_cons_succ]))
          | (refine ty_late rfl rfl rfl ?_; apply Exists.intro; refine ⟨fun wq => ?_, ?_⟩
             · simp only [pureAt]; go_simp; (try simp only [↓IntWalk.iteOmega]); (try go_bits); (try simp only [pureUpon]); (first | done | exact ⟨rfl, rfl⟩ | exact ⟨trivial, rfl⟩ | rfl)
             (try simp only [Act.put, List.setIfInBounds_toArray, List.set_cons_zero, List.set_cons_succ]))
        first
          | (refine ty_skip rfl rfl ?_; (try simp only [Act.put, List.setIfInBounds_toArray, List.set_cons_zero, List.set_cons_succ]))
          | (refine ty_late rfl rfl rfl ?_; apply Exists.intro; refine ⟨fun wq => ?_, ?_⟩
             · simp only [pureAt]; go_simp; (try simp only [↓IntWalk.iteOmega]); (try go_bits); (try simp only [pureUpon]); (first | done | exact ⟨rfl, rfl⟩ | exact ⟨trivial, rfl⟩ | rfl)
             (try simp only [Act.put, List.setIfInBounds_toArray, List.set_cons_zero, List.set_cons_succ]))
        first
          | (refine ty_skip rfl rfl ?_; (try simp only [Act.put, List.setIfInBounds_toArray, List.set_cons_zero, List.set_cons_succ]))
          | (refine ty_late rfl rfl rfl ?_; apply Exists.intro; refine ⟨fun wq => ?_, ?_⟩
             · simp only [pureAt]; go_simp; (try simp only [↓IntWalk.iteOmega]); (try go_bits); (try simp only [pureUpon]); (first | done | exact ⟨rfl, rfl⟩ | exact ⟨trivial, rfl⟩ | rfl)
             (try simp only [Act.put, List.setIfInBounds_toArray, List.set_cons_zero, List.set_cons_succ]))
        first
          | (refine ty_skip rfl rfl ?_; (try simp only [Act.put, List.setIfInBounds_toArray, List.set_cons_zero, List.set_cons_succ]))
          | (refine ty_late rfl rfl rfl ?_; apply Exists.intro; refine ⟨fun wq => ?_, ?_⟩
             · simp only [pureAt]; go_simp; (try simp only [↓IntWalk.iteOmega]); (try go_bits); (try simp only [pureUpon]); (first | done | exact ⟨rfl, rfl⟩ | exact ⟨trivial, rfl⟩ | rfl)
             (try simp only [Act.put, List.setIfInBounds_toArray, List.set_cons_zero, List.set_cons_succ]))
        first
          | (refine ty_skip rfl rfl ?_; (try simp only [Act.put, List.setIfInBounds_toArray, List.set_cons_zero, List.set_cons_succ]))
          | (refine ty_late rfl rfl rfl ?_; apply Exists.intro; refine ⟨fun wq => ?_, ?_⟩
             · simp only [pureAt]; go_simp; (try simp only [↓IntWalk.iteOmega]); (try go_bits); (try simp only [pureUpon]); (first | done | exact ⟨rfl, rfl⟩ | exact ⟨trivial, rfl⟩ | rfl)
             (try simp only [Act.put, List.setIfInBounds_toArray, List.set_cons_zero, List.set_cons_succ]))
        first
          | (refine ty_skip rfl rfl ?_; (try simp only [Act.put, List.setIfInBounds_toArray, List.set_cons_zero, List.set_cons_succ]))
          | (refine ty_late rfl rfl rfl ?_; apply Exists.intro; refine ⟨fun wq => ?_, ?_⟩
             · simp only [pureAt]; go_simp; (try simp only [↓IntWalk.iteOmega]); (try go_bits); (try simp only [pureUpon]); (first | done | exact ⟨rfl, rfl⟩ | exact ⟨trivial, rfl⟩ | rfl)
             (try simp only [Act.put, List.setIfInBounds_toArray, List.set_cons_zero, List.set_cons_succ]))
        refine ty_nil ?_
        simp only [List.drop_succ_cons, List.drop_zero]
        intro W8 hw8 hΓ
        have V8 := V.below hw8.out
        clear hΓ hw8 V QB HBs B1c B1l B2c B2f B2l
        have V := V8
        clear V8
        have HBs := V.HB.size
        have B1c := V.B1.cell; have B1l := V.B1.lt
        have B2c := V.B2.cell; have B2f := V.B2.frozen; have B2l := V.B2.lt
        obtain ⟨a3, ha3⟩ : ∃ k, p + 3 = k := ⟨_, rfl⟩
        have hs3 : (p : Int) + 3 = (a3 : Int) := by omega
        have HA3 := Lib.hid ha3
        have ha310 : a3 ≤ 10003 := by omega
        clear ha3
        by_cases z1 : (ch : Int) ≤ y
        · have HNO := Lib.hid (HFAIL.out (by rw [HAP.out]; exact if_neg (fun h => by have := HSLL.out; have := HA3.out; omega)))
          go_wp2_with fail
          refine bodyPost_ret (v := .tuple #[RV 0 0 0 0 (.slice none 0 0), .bool false]) ?_ rfl (.inl ⟨HNO.out, rfl, ?_⟩)
          · first | (simp [results, Try.results32, go_sem, B2c]; done) | simp [results, Try.results32, go_sem, B2c, B2l]
          · have HBV := V.HB
            repeat (first | (with_reducible assumption) | (with_reducible exact Below.refl _ _) | with_reducible apply bl_drewN | with_reducible apply Below.drew | (with_reducible apply bl_alloc; focus (first | (simp; done) | (simp; omega) | omega)) | (with_reducible apply bl_set; focus (first | (simp; done) | (simp; omega) | omega)))
        by_cases z2 : (cw : Int) < (x : Int) + m
        · have HNO := Lib.hid (HFAIL.out (by rw [HAP.out]; exact if_neg (fun h => by have := HSLL.out; have := HA3.out; omega)))
          go_wp2_with fail
          refine bodyPost_ret (v := .tuple #[RV 0 0 0 0 (.slice none 0 0), .bool false]) ?_ rfl (.inl ⟨HNO.out, rfl, ?_⟩)
          · first | (simp [results, Try.results32, go_sem, B2c]; done) | simp [results, Try.results32, go_sem, B2c, B2l]
          · have HBV := V.HB
            repeat (first | (with_reducible assumption) | (with_reducible exact Below.refl _ _) | with_reducible apply bl_drewN | with_reducible apply Below.drew | (with_reducible apply bl_alloc; focus (first | (simp; done) | (simp; omega) | omega)) | (with_reducible apply bl_set; focus (first | (simp; done) | (simp; omega) | omega)))
        by_cases z3 : (d.size : Int) < (a3 : Int) + (m : Int)
        · have HNO := Lib.hid (HFAIL.out (by rw [HAP.out]; exact if_neg (fun h => by have := HSLL.out; have := HA3.out; omega)))
          go_wp2_with fail
          refine bodyPost_ret (v := .tuple #[RV 0 0 0 0 (.slice none 0 0), .bool false]) ?_ rfl (.inl ⟨HNO.out, rfl, ?_⟩)
          · first | (simp [results, Try.results32, go_sem, B2c]; done) | simp [results, Try.results32, go_sem, B2c, B2l]
          · have HBV := V.HB
            repeat (first | (with_reducible assumption) | (with_reducible exact Below.refl _ _) | with_reducible apply bl_drewN | with_reducible apply Below.drew | (with_reducible apply bl_alloc; focus (first | (simp; done) | (simp; omega) | omega)) | (with_reducible apply bl_set; focus (first | (simp; done) | (simp; omega) | omega)))
        have hap := HAP.out
        rw [if_pos ⟨by omega, by omega, by have := HSLL.out; have := HA3.out; omega⟩] at hap
        obtain ⟨yp, hyp⟩ : ∃ k, y * cw = k := ⟨_, rfl⟩
        obtain ⟨o, ho⟩ : ∃ k, yp + x = k := ⟨_, rfl⟩
        obtain ⟨e, he⟩ : ∃ k, a3 + m = k := ⟨_, rfl⟩
        rw [hyp, ho] at hap
        have hend : y * cw + cw ≤ n := by rw [← HN.out]; exact row_end (by omega)
        rw [hyp] at hend
        have hmul : (y : Int) * (cw : Int) = (yp : Int) := by rw [← hyp]; simp
        have hsum : (yp : Int) + (x : Int) = (o : Int) := by omega
        have hsume : (a3 : Int) + (m : Int) = (e : Int) := by omega
        have HONM : o + m ≤ n := by omega
        have hen : e ≤ d.size := by omega
        have HAP2 := Lib.hid hap
        have HEM := Lib.hid he
        clear hyp ho he hend hap HAP hp3b
        go_wp2_with fail
        go_loopg [12] m (fun g2 t12 wx => ∃ i : Nat, t12 = .int .i64 i ∧ i + g2 = m ∧ QAt w wx #[.int .i64 cw, .int .i64 ch, .int .i64 sx, .int .i64 sy, .slice (some ⟨b1, o1, none⟩) ch c1] G (cells.take o ++ sl.take i ++ cells.drop (o + i)))
        case atStart => exact ⟨0, rfl, by omega, by rw [List.take_zero, List.append_nil, Nat.add_zero, List.take_append_drop]; exact V⟩
        case round =>
          clear V HBs B1c B1l B2c B2f B2l
          obtain ⟨i, rfl, hi, V⟩ := hrel
          have HBs := V.HB.size
          have HI := Lib.hid hi
          by_cases him : (i : Int) < m
          · have himl : i < m := by omega
            obtain ⟨g2, rfl⟩ : ∃ k, gk = k + 1 := ⟨gk - 1, by omega⟩
            obtain ⟨k, hk⟩ : ∃ k, o + i = k := ⟨_, rfl⟩
            obtain ⟨k5, hk5⟩ : ∃ k, a3 + i = k := ⟨_, rfl⟩
            have hsk : (o : Int) + (i : Int) = (k : Int) := by omega
            have hsk5 : (a3 : Int) + (i : Int) = (k5 : Int) := by omega
            have hk5d : k5 < d.size := by omega
            have hk5i : (k5 : Int) < d.size := by omega
            have hkn : (k : Int) < n := by omega
            obtain ⟨c, hc⟩ : ∃ c, d[k5] = c := ⟨_, rfl⟩
            have hcs : sl.getD i 0 = c := by
              rw [← hc, ← ba_getD d k5 hk5d, ← HSL2.out, List.getD_eq_getElem?_getD, List.getElem?_drop, ← List.getD_eq_getElem?_getD]
              congr 1
              have := HA3.out
              omega
            have hsli : i < sl.length := by have := HSLL.out; have := HA3.out; omega
            have hclen : (cells.take o ++ sl.take i ++ cells.drop (o + i)).length = n := by
              have h5 := HCL.out
              rw [List.length_append, List.length_append, List.length_take, List.length_take, List.length_drop]; omega
            have hpatch := patch_set cells sl o i (by have := HCL.out; omega) hsli
            rw [hcs, hk] at hpatch
            rw [hk] at hclen V
            have hkc : k < (cells.take o ++ sl.take i ++ cells.drop k).length := by rw [hclen]; omega
            have HPATCH := Lib.hid hpatch
            have HKC := Lib.hid hkc
            have QB := V.B1
            have QR := V.row.cell k hkc
            clear hi hk hk5 hcs hsli hclen hpatch hkc
            go_wp2_with fail
            refine wp_region_typed 14 (fun k => match k with  | _ => []) (fun k => match k with  | _ => false) (fun k => match k with  | _ => none) (by kernel_rfl) (by kernel_rfl) (by intro d0 v0 c0 a0 w0 h0; cases d0 <;> exact h0) ?_
            rw [show List.range 14 = [0, 1, 2, 3, 4, 5, 6, 7, 8, 9, 10, 11, 12, 13] from rfl]
            first
              | (refine ty_skip rfl rfl ?_; (try simp only [Act.put, List.setIfInBounds_toArray, List.set_cons_zero, List.set_cons_succ]))
              | (refine ty_pure rfl rfl rfl rfl ?_; apply Exists.intro; refine ⟨fun wq hq hk => ?_, ?_⟩
                 · have f0 := hq.blk QB; simp only [pureAt]; go_simp; (try simp only [↓IntWalk.iteOmega]); (try go_bits); (try simp only [pureUpon]); (first | done | exact ⟨rfl, rfl⟩ | exact ⟨trivial, rfl⟩ | rfl)
                 (try simp only [Act.put, List.setIfInBounds_toArray, List.set_cons_zero, List.set_cons_succ]))
            first
              | (refine ty_skip rfl rfl ?_; (try simp only [Act.put, List.setIfInBounds_toArray, List.set_cons_zero, List.set_cons_succ]))
              | (refine ty_pure rfl rfl rfl rfl ?_; apply Exists.intro; refine ⟨fun wq hq hk => ?_, ?_⟩
                 · have f0 := hq.blk QB; simp only [pureAt]; go_simp; (try simp only [↓IntWalk.iteOmega]); (try go_bits); (try simp only [pureUpon]); (first | done | exact ⟨rfl, rfl⟩ | exact ⟨trivial, rfl⟩ | rfl)
                 (try simp only [Act.put, List.setIfInBounds_toArray, List.set_cons_zero, List.set_cons_succ]))
            first
              | (refine ty_skip rfl rfl ?_; (try simp only [Act.put, List.setIfInBounds_toArray, List.set_cons_zero, List.set_cons_succ]))
              | (refine ty_pure rfl rfl rfl rfl ?_; apply Exists.intro; refine ⟨fun wq hq hk => ?_, ?_⟩
                 · have f0 := hq.blk QB; simp only [pureAt]; go_simp; (try simp only [↓IntWalk.iteOmega]); (try go_bits); (try simp only [pureUpon]); (first | done | exact ⟨rfl, rfl⟩ | exact ⟨trivial, rfl⟩ | rfl)
                 (try simp only [Act.put, List.setIfInBounds_toArray, List.set_cons_zero, List.set_cons_succ]))
            first
              | (refine ty_skip rfl rfl ?_; (try simp only [Act.put, List.setIfInBounds_toArray, List.set_cons_zero, List.set_cons_succ]))
              | (refine ty_pure rfl rfl rfl rfl ?_; apply Exists.intro; refine ⟨fun wq hq hk => ?_, ?_⟩
                 · have f0 := hq.blk QB; simp only [pureAt]; go_simp; (try simp only [↓IntWalk.iteOmega]); (try go_bits); (try simp only [pureUpon]); (first | done | exact ⟨rfl, rfl⟩ | exact ⟨trivial, rfl⟩ | rfl)
                 (try simp only [Act.put, List.setIfInBounds_toArray, List.set_cons_zero, List.set_cons_succ]))
            first
              | (refine ty_skip rfl rfl ?_; (try simp only [Act.put, List.setIfInBounds_toArray, List.set_cons_zero, List.set_cons_succ]))
              | (refine ty_pure rfl rfl rfl rfl ?_; apply Exists.intro; refine ⟨fun wq hq hk => ?_, ?_⟩
                 · have f0 := hq.blk QB; simp only [pureAt]; go_simp; (try simp only [↓IntWalk.iteOmega]); (try go_bits); (try simp only [pureUpon]); (first | done | exact ⟨rfl, rfl⟩ | exact ⟨trivial, rfl⟩ | rfl)
                 (try simp only [Act.put, List.setIfInBounds_toArray, List.set_cons_zero, List.set_cons_succ]))
            first
              | (refine ty_skip rfl rfl ?_; (try simp only [Act.put, List.setIfInBounds_toArray, List.set_cons_zero, List.set_cons_succ]))
              | (refine ty_pure rfl rfl rfl rfl ?_; apply Exists.intro; refine ⟨fun wq hq hk => ?_, ?_⟩
                 · have f0 := hq.blk QB; simp only [pureAt]; go_simp; (try simp only [↓IntWalk.iteOmega]); (try go_bits); (try simp only [pureUpon]); (first | done | exact ⟨rfl, rfl⟩ | exact ⟨trivial, rfl⟩ | rfl)
                 (try simp only [Act.put, List.setIfInBounds_toArray, List.set_cons_zero, List.set_cons_succ]))
            first
              | (refine ty_skip rfl rfl ?_; (try simp only [Act.put, List.setIfInBounds_toArray, List.set_cons_zero, List.set_cons_succ]))
              | (refine ty_pure rfl rfl rfl rfl ?_; apply Exists.intro; refine ⟨fun wq hq hk => ?_, ?_⟩
                 · have f0 := hq.blk QB; simp only [pureAt]; go_simp; (try simp only [↓IntWalk.iteOmega]); (try go_bits); (try simp only [pureUpon]); (first | done | exact ⟨rfl, rfl⟩ | exact ⟨trivial, rfl⟩ | rfl)
                 (try simp only [Act.put, List.setIfInBounds_toArray, List.set_cons_zero, List.set_cons_succ]))
            first
              | (refine ty_skip rfl rfl ?_; (try simp only [Act.put, List.setIfInBounds_toArray, List.set_cons_zero, List.set_cons_succ]))
              | (refine ty_pure rfl rfl rfl rfl ?_; apply Exists.intro; refine ⟨fun wq hq hk => ?_, ?_⟩
                 · have f0 := hq.blk QB; simp only [pureAt]; go_simp; (try simp only [↓IntWalk.iteOmega]); (try go_bits); (try simp only [pureUpon]); (first | done | exact ⟨rfl, rfl⟩ | exact ⟨trivial, rfl⟩ | rfl)
                 (try simp only [Act.put, List.setIfInBounds_toArray, List.set_cons_zero, List.set_cons_succ]))
            first
              | (refine ty_skip rfl rfl ?_; (try simp only [Act.put, List.setIfInBounds_toArray, List.set_cons_zero, List.set_cons_succ]))
              | (refine ty_pure rfl rfl rfl rfl ?_; apply Exists.intro; refine ⟨fun wq hq hk => ?_, ?_⟩
                 · have f0 := hq.blk QB; simp only [pureAt]; go_simp; (try simp only [↓IntWalk.iteOmega]); (try go_bits); (try simp only [pureUpon]); (first | done | exact ⟨rfl, rfl⟩ | exact ⟨trivial, rfl⟩ | rfl)
                 (try simp only [Act.put, List.setIfInBounds_toArray, List.set_cons_zero, List.set_cons_succ]))
            first
              | (refine ty_skip rfl rfl ?_; (try simp only [Act.put, List.setIfInBounds_toArray, List.set_cons_zero, List.set_cons_succ]))
              | (refine ty_pure rfl rfl rfl rfl ?_; apply Exists.intro; refine ⟨fun wq hq hk => ?_, ?_⟩
                 · have f0 := hq.blk QB; simp only [pureAt]; go_simp; (try simp only [↓IntWalk.iteOmega]); (try go_bits); (try simp only [pureUpon]); (first | done | exact ⟨rfl, rfl⟩ | exact ⟨trivial, rfl⟩ | rfl)
                 (try simp only [Act.put, List.setIfInBounds_toArray, List.set_cons_zero, List.set_cons_succ]))
            first
              | (refine ty_skip rfl rfl ?_; (try simp only [Act.put, List.setIfInBounds_toArray, List.set_cons_zero, List.set_cons_succ]))
              | (refine ty_pure rfl rfl rfl rfl ?_; apply Exists.intro; refine ⟨fun wq hq hk => ?_, ?_⟩
                 · have f0 := hq.blk QB; simp only [pureAt]; go_simp; (try simp only [↓IntWalk.iteOmega]); (try go_bits); (try simp only [pureUpon]); (first | done | exact ⟨rfl, rfl⟩ | exact ⟨trivial, rfl⟩ | rfl)
                 (try simp only [Act.put, List.setIfInBounds_toArray, List.set_cons_zero, List.set_cons_succ]))
            first
              | (refine ty_skip rfl rfl ?_; (try simp only [Act.put, List.setIfInBounds_toArray, List.set_cons_zero, List.set_cons_succ]))
              | (refine ty_pure rfl rfl rfl rfl ?_; apply Exists.intro; refine ⟨fun wq hq hk => ?_, ?_⟩
                 · have f0 := hq.blk QB; simp only [pureAt]; go_simp; (try simp only [↓IntWalk.iteOmega]); (try go_bits); (try simp only [pureUpon]); (first | done | exact ⟨rfl, rfl⟩ | exact ⟨trivial, rfl⟩ | rfl)
                 (try simp only [Act.put, List.setIfInBounds_toArray, List.set_cons_zero, List.set_cons_succ]))
            first
              | (refine ty_skip rfl rfl ?_; (try simp only [Act.put, List.setIfInBounds_toArray, List.set_cons_zero, List.set_cons_succ]))
              | (refine ty_pure rfl rfl rfl rfl ?_; apply Exists.intro; refine ⟨fun wq hq hk => ?_, ?_⟩
                 · have f0 := hq.blk QB; simp only [pureAt]; go_simp; (try simp only [↓IntWalk.iteOmega]); (try go_bits); (try simp only [pureUpon]); (first | done | exact ⟨rfl, rfl⟩ | exact ⟨trivial, rfl⟩ | rfl)
                 (try simp only [Act.put, List.setIfInBounds_toArray, List.set_cons_zero, List.set_cons_succ]))
            first
              | (refine ty_skip rfl rfl ?_; (try simp only [Act.put, List.setIfInBounds_toArray, List.set_cons_zero, List.set_cons_succ]))
              | (refine ty_pure rfl rfl rfl rfl ?_; apply Exists.intro; refine ⟨fun wq hq hk => ?_, ?_⟩
                 · have f0 := hq.blk QB; simp only [pureAt]; go_simp; (try simp only [↓IntWalk.iteOmega]); (try go_bits); (try simp only [pureUpon]); (first | done | exact ⟨rfl, rfl⟩ | exact ⟨trivial, rfl⟩ | rfl)
                 (try simp only [Act.put, List.setIfInBounds_toArray, List.set_cons_zero, List.set_cons_succ]))
            refine ty_nil ?_
            simp only [List.drop_succ_cons, List.drop_zero]
            intro W8 hw8 hΓ
            have V8 := V.below hw8.out
            clear hΓ hw8 V QB QR HBs
            have hcell := V8.row.cell k HKC.out
            have hfz := V8.row.frz k HKC.out
            have hgl := V8.row.lt
            have V9 := V8.set HKC.out c
            rw [HPATCH.out] at V9
            clear V8
            go_wp2_with fail
            go_roundg g2
            case rel => exact ⟨i + 1, by simp, by have := HI.out; omega, V9⟩
            case measure => omega
          · have hie : i = m := by omega
            subst hie
            have B1c := V.B1.cell; have B1l := V.B1.lt
            clear hi
            go_wp2_with fail
            go_roundg (d.size - e)
            case rel =>
              have h3 := HA3.out; have h4 := HEM.out; have h5 := HSLL.out; have h6 := HCL.out; have h7 := HAP2.out
              have h8 : d.data.toList.drop e = sl.drop i := by rw [← HSL2.out, List.drop_drop]; congr 1; omega
              exact ⟨e, _, rfl, by omega, by omega, by omega, by rw [h8]; exact h7, by rw [List.length_append, List.length_append, List.length_take, List.length_take, List.length_drop]; omega, V⟩
            case measure => have h3 := HA3.out; have h4 := HEM.out; have h5 := HG.out; omega
end Go.Proofs.Ytgdmeaoghhkknaa
