/- Parse, of package sender. -/
import Derived.Test.YtpnbmfpdoipioaaTexts3
namespace Go.Proofs.Ytpnbmfpdoipioaa
open Go.RowKit

def pt (t : ByteArray) (k : Nat) : ByteArray := t.extract (8 * k) (8 * k + 8)
def pn (t : ByteArray) (k : Nat) : Nat := getJ (pt t k) 8
def pr (t : ByteArray) : ByteArray := t.extract 32 t.size
def pl (t : ByteArray) : List ByteArray := [pt t 0, pt t 1, pt t 2, pt t 3, pr t]
theorem pt_size (t : ByteArray) (k : Nat) (h : 8 * k + 8 ≤ t.size) : (pt t k).size = 8 := by
  unfold pt; rw [ByteArray.size_extract]; omega
theorem pn_lt (t : ByteArray) (k : Nat) (h : 8 * k + 8 ≤ t.size) : pn t k ≤ 18446744073709551615 := by
  have := getJ_lt (pt t k) 8 (by rw [pt_size t k h]; exact Nat.le_refl _)
  unfold pn
  omega
theorem ext_ext (t : ByteArray) (i k l : Nat) (h : i + l ≤ t.size) : (t.extract i t.size).extract k l = t.extract (i + k) (i + l) := by
  rw [ByteArray.extract_extract, Nat.min_eq_left h]
theorem cut8 (t : ByteArray) (i : Nat) (ns : List Nat) (h : i + 8 ≤ t.size) : cutR (t.extract i t.size) (8 :: ns) = (cutR (t.extract (i + 8) t.size) ns).map (t.extract i (i + 8) :: ·) := by
  have hs : (t.extract i t.size).size = t.size - i := by rw [ByteArray.size_extract]; omega
  show (if (t.extract i t.size).size < 8 then none else _) = _
  rw [if_neg (by omega), hs, ext_ext t i 8 (t.size - i) (by omega), ext_ext t i 0 8 (by omega), show i + (t.size - i) = t.size by omega, Nat.add_zero]
theorem cut8n (t : ByteArray) (i : Nat) (ns : List Nat) (h : t.size < i + 8) (hi : i ≤ t.size) : cutR (t.extract i t.size) (8 :: ns) = none := by
  have hs : (t.extract i t.size).size = t.size - i := by rw [ByteArray.size_extract]; omega
  show (if (t.extract i t.size).size < 8 then none else _) = _
  rw [if_pos (by omega)]
theorem ext_all (t : ByteArray) : t.extract 0 t.size = t := ByteArray.extract_zero_size
theorem cut_pl (t : ByteArray) (h : 32 ≤ t.size) : cutR t [8, 8, 8, 8] = some (pl t) := by
  have e := cut8 t 0 [8, 8, 8] (by omega)
  rw [ext_all] at e
  rw [e, cut8 t 8 _ (by omega), cut8 t 16 _ (by omega), cut8 t 24 _ (by omega)]
  rfl
theorem cut_pn (t : ByteArray) (h : t.size < 32) : cutR t [8, 8, 8, 8] = none := by
  rcases Nat.lt_or_ge t.size 8 with h1 | h1
  · have e := cut8n t 0 [8, 8, 8] (by omega) (by omega); rw [ext_all] at e; exact e
  have e := cut8 t 0 [8, 8, 8] (by omega)
  rw [ext_all] at e
  rw [e]
  rcases Nat.lt_or_ge t.size 16 with h2 | h2
  · rw [cut8n t 8 _ (by omega) (by omega)]; rfl
  rw [cut8 t 8 _ (by omega)]
  rcases Nat.lt_or_ge t.size 24 with h3 | h3
  · rw [cut8n t 16 _ (by omega) (by omega)]; rfl
  rw [cut8 t 16 _ (by omega), cut8n t 24 _ (by omega) (by omega)]; rfl

set_option maxHeartbeats 2000000 in
set_option maxRecDepth 20000 in
theorem parse_none (t : ByteArray) (w : World) (ht : t.size < 32) :
    Calls Try.prog 23 #[.string t] w fun e w' => e = .returned (.tuple #[IV 0 0 0 0 ⟨#[]⟩, .int .i64 3]) ∧ Below w.heap.size w w' := by
  go_enter Try.func23, Try.ntmps23
  go_wp2_with fail
  have B1 : Blk ((w.alloc (.cells #[.int .u64 0, .int .u64 0, .int .u64 0, .int .u64 0, .string ⟨#[]⟩] 38)).alloc (.cells #[.int .i64 8, .int .i64 8, .int .i64 8, .int .i64 8] 3)) (w.heap.size + 1) #[.int .i64 8, .int .i64 8, .int .i64 8, .int .i64 8] 3 := Blk.new' (by simp)
  refine (cut_none t _ _ [8, 8, 8, 8] _ (fun j hj => by
    rw [B1.cell]
    match j, hj with
    | 0, _ => rfl
    | 1, _ => rfl
    | 2, _ => rfl
    | 3, _ => rfl) B1.lt (by decide) (by omega) (cut_pn t ht)).mono ?_
  rintro e w1 ⟨rfl, hb⟩
  have B0 := Blk.below (b := w.heap.size) (t := 38) (by (repeat (first | (with_reducible assumption) | (with_reducible apply Blk.new'; (first | (with_reducible rfl) | (simp; done))) | with_reducible apply Blk.alloc | with_reducible apply Blk.set | ((with_reducible apply Blk.set_ne); focus (first | (simp; done) | (simp; omega))) | with_reducible apply Blk.drewN | with_reducible apply Blk.drew))) hb
  have HB : Below w.heap.size w w1 := Below.thn (by (repeat (first | (with_reducible assumption) | (with_reducible exact Below.refl _ _) | with_reducible apply bl_drewN | with_reducible apply Below.drew | (with_reducible apply bl_alloc; focus (first | (simp; done) | (simp; omega) | omega)) | (with_reducible apply bl_set; focus (first | (simp; done) | (simp; omega) | omega))))) hb
  have HBs := HB.size
  have B0c := B0.cell; have B0l := B0.lt; have B0f := B0.frozen
  clear hb B1
  go_wp2_with fail
  refine bodyPost_ret (v := .tuple #[IV 0 0 0 0 ⟨#[]⟩, .int .i64 3]) ?_ rfl ⟨rfl, ?_⟩
  · first | (simp [results, Try.results23, go_sem, B0c]; done) | simp [results, Try.results23, go_sem, B0c, B0l]
  · repeat (first | (with_reducible assumption) | (with_reducible exact Below.refl _ _) | with_reducible apply bl_drewN | with_reducible apply Below.drew | (with_reducible apply bl_alloc; focus (first | (simp; done) | (simp; omega) | omega)) | (with_reducible apply bl_set; focus (first | (simp; done) | (simp; omega) | omega)))
def n4 (t : ByteArray) (j : Nat) : Array Value := #[.int .u64 (if 0 < j then pn t 0 else 0 : Nat), .int .u64 (if 1 < j then pn t 1 else 0 : Nat), .int .u64 (if 2 < j then pn t 2 else 0 : Nat), .int .u64 (if 3 < j then pn t 3 else 0 : Nat)]
set_option maxHeartbeats 4000000 in
set_option maxRecDepth 20000 in
theorem parse_ok (t : ByteArray) (w : World) (ht : 32 ≤ t.size) (hts : t.size ≤ 100000) :
    Calls Try.prog 23 #[.string t] w fun e w' => e = .returned (.tuple #[IV (pn t 0) (pn t 1) (pn t 2) (pn t 3) (pr t), .int .i64 0]) ∧ Below w.heap.size w w' := by
  have hsz := fun k (hk : 8 * k + 8 ≤ 32) => pt_size t k (by omega)
  have hnl := fun k (hk : 8 * k + 8 ≤ 32) => pn_lt t k (by omega)
  go_enter Try.func23, Try.ntmps23
  go_wp2_with fail
  have B1 : Blk ((w.alloc (.cells #[.int .u64 0, .int .u64 0, .int .u64 0, .int .u64 0, .string ⟨#[]⟩] 38)).alloc (.cells #[.int .i64 8, .int .i64 8, .int .i64 8, .int .i64 8] 3)) (w.heap.size + 1) #[.int .i64 8, .int .i64 8, .int .i64 8, .int .i64 8] 3 := Blk.new' (by simp)
  refine (cut_some t _ _ [8, 8, 8, 8] (pl t) _ (fun j hj => by
    rw [B1.cell]
    match j, hj with
    | 0, _ => rfl
    | 1, _ => rfl
    | 2, _ => rfl
    | 3, _ => rfl) B1.lt (by decide) (by omega) (cut_pl t ht)).mono ?_
  rintro e w1 ⟨v, rfl, ho, hb⟩
  have B0 := Blk.below (b := w.heap.size) (t := 38) (by (repeat (first | (with_reducible assumption) | (with_reducible apply Blk.new'; (first | (with_reducible rfl) | (simp; done))) | with_reducible apply Blk.alloc | with_reducible apply Blk.set | ((with_reducible apply Blk.set_ne); focus (first | (simp; done) | (simp; omega))) | with_reducible apply Blk.drewN | with_reducible apply Blk.drew))) hb
  have HB : Below w.heap.size w w1 := Below.thn (by (repeat (first | (with_reducible assumption) | (with_reducible exact Below.refl _ _) | with_reducible apply bl_drewN | with_reducible apply Below.drew | (with_reducible apply bl_alloc; focus (first | (simp; done) | (simp; omega) | omega)) | (with_reducible apply bl_set; focus (first | (simp; done) | (simp; omega) | omega))))) hb
  have HBs := HB.size
  have B0c := B0.cell; have B0l := B0.lt; have B0f := B0.frozen
  obtain ⟨g, c, rfl, hg, T1⟩ := texts_of_own ho (by show 0 < 5; omega)
  have hp0 := hsz 0 (by omega); have hp1 := hsz 1 (by omega); have hp2 := hsz 2 (by omega); have hp3 := hsz 3 (by omega)
  have hT0 := T1.cell 0 (by show 0 < 5; omega); have hT1 := T1.cell 1 (by show 1 < 5; omega); have hT2 := T1.cell 2 (by show 2 < 5; omega); have hT3 := T1.cell 3 (by show 3 < 5; omega); have hT4 := T1.cell 4 (by show 4 < 5; omega)
  have hTl := T1.lt
  clear hb B1 ho
  rw [show (pl t).length = 5 from rfl] at *
  rw [show (pl t).getD 0 ⟨#[]⟩ = pt t 0 from rfl] at hT0
  rw [show (pl t).getD 1 ⟨#[]⟩ = pt t 1 from rfl] at hT1
  rw [show (pl t).getD 2 ⟨#[]⟩ = pt t 2 from rfl] at hT2
  rw [show (pl t).getD 3 ⟨#[]⟩ = pt t 3 from rfl] at hT3
  rw [show (pl t).getD 4 ⟨#[]⟩ = pr t from rfl] at hT4
  go_wp2_with fail
  have hb0 : Below w1.heap.size w1 (w1.alloc (.cells #[.int .u64 0, .int .u64 0, .int .u64 0, .int .u64 0] 78)) := (Below.refl _ _).alloc (Nat.le_refl _) _
  have hB0 : Blk (w1.alloc (.cells #[.int .u64 0, .int .u64 0, .int .u64 0, .int .u64 0] 78)) w1.heap.size (n4 t 0) 78 := Blk.new w1 _ 78
  go_loopg [17] 4 (fun q t17 wr => ∃ j : Nat, t17 = .int .i64 j ∧ j + q = 4 ∧ Below w1.heap.size w1 wr ∧ Blk wr w1.heap.size (n4 t j) 78)
  case atStart => exact ⟨0, rfl, by omega, hb0, hB0⟩
  case round =>
    clear hb0 hB0
    obtain ⟨j, rfl, hj, hb, BA⟩ := hrel
    have HBs1 := hb.size
    have B2 := B0.below hb
    have B2c := B2.cell; have B2f := B2.frozen; have B2l := B2.lt
    have BAc := BA.cell; have BAf := BA.frozen; have BAl := BA.lt
    have c0 := (hb.cell (p := ⟨g, 0, none⟩) hTl).trans hT0
    have c1 := (hb.cell (p := ⟨g, 1, none⟩) hTl).trans hT1
    have c2 := (hb.cell (p := ⟨g, 2, none⟩) hTl).trans hT2
    have c3 := (hb.cell (p := ⟨g, 3, none⟩) hTl).trans hT3
    have c4 := (hb.cell (p := ⟨g, 4, none⟩) hTl).trans hT4
    have HJ := Lib.hid hj
    cases gk with
    | zero =>
      obtain rfl : j = 4 := by omega
      clear hj
      have a0 : wr.cell? ⟨w1.heap.size, 0, none⟩ = some (.int .u64 (pn t 0 : Nat)) := BA.cell 0
      have a1 : wr.cell? ⟨w1.heap.size, 1, none⟩ = some (.int .u64 (pn t 1 : Nat)) := BA.cell 1
      have a2 : wr.cell? ⟨w1.heap.size, 2, none⟩ = some (.int .u64 (pn t 2 : Nat)) := BA.cell 2
      have a3 : wr.cell? ⟨w1.heap.size, 3, none⟩ = some (.int .u64 (pn t 3 : Nat)) := BA.cell 3
      have HBw : Below w.heap.size w wr := Below.thn HB hb HBs
      have HBws := HBw.size
      clear BAc BAf hb BA c0 c1 c2 c3 hT0 hT1 hT2 hT3 hT4 T1
      clear B0 B0c B0l B0f hsz hnl hp0 hp1 hp2 hp3 hg
      go_wp2_with fail
      refine wp_region_gr_tail 12 (by kernel_rfl) (by kernel_rfl) ?_
      simp only [List.take_succ_cons, List.take_zero, List.drop_succ_cons, List.drop_zero]
      repeat (first
        | go_big_quiet_skip
        | ((refine BigFrame.wpQuiet_want rfl (fun K hK => quiet_mk ?_)); apply Exists.intro; refine ⟨fun wq hq => ?_, hK _ ?_⟩
           · have f0 := hq.cell a0; have f1 := hq.cell a1; have f2 := hq.cell a2; have f3 := hq.cell a3; have f4 := hq.cell c4; go_simp; (try simp only [↓IntWalk.iteOmega]); (try go_bits)
             first | done | rfl | exact ⟨rfl, rfl⟩
           clear hK K; (try simp only [Act.put, List.setIfInBounds_toArray, List.set_cons_zero, List.set_cons_succ])))
      refine wpQuiet_nil ?_
      intro W2 hw2
      have hb2 := hw2.out
      have B3 := B2.below hb2
      have B3c := B3.cell; have B3f := B3.frozen; have B3l := B3.lt
      have HB2 := Below.thn HBw hb2 HBws
      have HB2s := HB2.size
      clear hw2 hb2 B2 B2c B2f B2l a0 a1 a2 a3 c4 HBw HBws
      go_wp2_with fail
      refine bodyPost_ret (v := .tuple #[IV (pn t 0) (pn t 1) (pn t 2) (pn t 3) (pr t), .int .i64 0]) ?_ rfl ⟨rfl, ?_⟩
      · first | (simp [results, Try.results23, go_sem, B3c]; done) | simp [results, Try.results23, go_sem, B3c, B3l]
      · repeat (first | (with_reducible assumption) | (with_reducible exact Below.refl _ _) | with_reducible apply bl_drewN | with_reducible apply Below.drew | (with_reducible apply bl_alloc; focus (first | (simp; done) | (simp; omega) | omega)) | (with_reducible apply bl_set; focus (first | (simp; done) | (simp; omega) | omega)))
    | succ q =>
      rcases (by omega : j = 0 ∨ j = 1 ∨ j = 2 ∨ j = 3) with rfl | rfl | rfl | rfl
      · clear hj
        have hl := hnl 0 (by omega)
        have hsp : (pt t 0).size = 8 := hp0
        go_wp2_with fail
        refine (get_any (pt t 0) _ (by omega) (by omega)).mono ?_
        rintro e w2 ⟨rfl, hb2⟩
        rw [hsp]
        have hBA := BA.below hb2
        have hb3 := Below.thn hb hb2 HBs1
        have hBAc := hBA.cell; have hBAf := hBA.frozen; have hBAl := hBA.lt
        have hB := hBA.set (o := 0) (v := .int .u64 (pn t 0 : Nat))
        have hb4 := hb3.setCell (p := ⟨w1.heap.size, 0, none⟩) (Nat.le_refl _) (u := .int .u64 (pn t 0 : Nat))
        clear BA BAc BAf BAl
        go_wp2_with fail
        go_roundg q
        case rel => exact ⟨1, rfl, by have := HJ.out; omega, hb4, hB⟩
        case measure => omega
      · clear hj
        have hl := hnl 1 (by omega)
        have hsp : (pt t 1).size = 8 := hp1
        go_wp2_with fail
        refine (get_any (pt t 1) _ (by omega) (by omega)).mono ?_
        rintro e w2 ⟨rfl, hb2⟩
        rw [hsp]
        have hBA := BA.below hb2
        have hb3 := Below.thn hb hb2 HBs1
        have hBAc := hBA.cell; have hBAf := hBA.frozen; have hBAl := hBA.lt
        have hB := hBA.set (o := 1) (v := .int .u64 (pn t 1 : Nat))
        have hb4 := hb3.setCell (p := ⟨w1.heap.size, 1, none⟩) (Nat.le_refl _) (u := .int .u64 (pn t 1 : Nat))
        clear BA BAc BAf BAl
        go_wp2_with fail
        go_roundg q
        case rel => exact ⟨2, rfl, by have := HJ.out; omega, hb4, hB⟩
        case measure => omega
      · clear hj
        have hl := hnl 2 (by omega)
        have hsp : (pt t 2).size = 8 := hp2
        go_wp2_with fail
        refine (get_any (pt t 2) _ (by omega) (by omega)).mono ?_
        rintro e w2 ⟨rfl, hb2⟩
        rw [hsp]
        have hBA := BA.below hb2
        have hb3 := Below.thn hb hb2 HBs1
        have hBAc := hBA.cell; have hBAf := hBA.frozen; have hBAl := hBA.lt
        have hB := hBA.set (o := 2) (v := .int .u64 (pn t 2 : Nat))
        have hb4 := hb3.setCell (p := ⟨w1.heap.size, 2, none⟩) (Nat.le_refl _) (u := .int .u64 (pn t 2 : Nat))
        clear BA BAc BAf BAl
        go_wp2_with fail
        go_roundg q
        case rel => exact ⟨3, rfl, by have := HJ.out; omega, hb4, hB⟩
        case measure => omega
      · clear hj
        have hl := hnl 3 (by omega)
        have hsp : (pt t 3).size = 8 := hp3
        go_wp2_with fail
        refine (get_any (pt t 3) _ (by omega) (by omega)).mono ?_
        rintro e w2 ⟨rfl, hb2⟩
        rw [hsp]
        have hBA := BA.below hb2
        have hb3 := Below.thn hb hb2 HBs1
        have hBAc := hBA.cell; have hBAf := hBA.frozen; have hBAl := hBA.lt
        have hB := hBA.set (o := 3) (v := .int .u64 (pn t 3 : Nat))
        have hb4 := hb3.setCell (p := ⟨w1.heap.size, 3, none⟩) (Nat.le_refl _) (u := .int .u64 (pn t 3 : Nat))
        clear BA BAc BAf BAl
        go_wp2_with fail
        go_roundg q
        case rel => exact ⟨4, rfl, by have := HJ.out; omega, hb4, hB⟩
        case measure => omega
end Go.Proofs.Ytpnbmfpdoipioaa
