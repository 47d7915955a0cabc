/- Package aes: whole, add, turned. -/
import Derived.Test.YtkblkdojmfgneaaAes4
namespace Go.Proofs.Ytkblkdojmfgneaa
open Go.RowKit

/-- A block's cells. -/
def bcells (l : List UInt8) : Array Value := (l.map bval).toArray
theorem bcells_len (l : List UInt8) (h : l.length = 16) : (bcells l).size = 16 := by simp [bcells, h]
theorem bcells_one (l : List UInt8) : (bcells l).all (·.oneCell') = true := bytes_one l
theorem bcells_get (l : List UInt8) (i : Nat) (h : i < l.length) : (bcells l)[i]? = some (.int .u8 (((l.getD i 0).toNat : Nat) : Int)) := bytes_get l i h
theorem bcells_set (l : List UInt8) (i : Nat) (c : UInt8) : (bcells l).setIfInBounds i (.int .u8 ((c.toNat : Nat) : Int)) = bcells (l.set i c) := bytes_set l i c
theorem bcells_z : bcells (List.replicate 16 0) = z16 := by kernel_rfl
theorem getD_set (x : List UInt8) (i j : Nat) (v : UInt8) (h : i < x.length) : (x.set i v).getD j 0 = if j = i then v else x.getD j 0 := by
  rw [List.getD_eq_getElem?_getD, List.getD_eq_getElem?_getD, List.getElem?_set]
  by_cases e : i = j
  · subst e; rw [if_pos rfl, if_pos h, if_pos rfl]; rfl
  · rw [if_neg e, if_neg (fun h => e h.symm)]
/-- A row that is being filled: the first i are the new ones. -/
structure Fill (t s x : List UInt8) (n i : Nat) : Prop where
  len : x.length = n
  done : ∀ j, j < i → x.getD j 0 = t.getD j 0
  todo : ∀ j, i ≤ j → j < n → x.getD j 0 = s.getD j 0
theorem Fill.start {t s : List UInt8} {n : Nat} (h : s.length = n) : Fill t s s n 0 := ⟨h, fun j hj => by omega, fun j _ _ => rfl⟩
theorem Fill.step {t s x : List UInt8} {n i : Nat} (h : Fill t s x n i) (hi : i < n) : Fill t s (x.set i (t.getD i 0)) n (i + 1) := by
  have hl : i < x.length := by rw [h.len]; exact hi
  refine ⟨by rw [List.length_set]; exact h.len, fun j hj => ?_, fun j hj hn => ?_⟩
  · rw [getD_set x i j _ hl]
    by_cases e : j = i
    · rw [if_pos e, e]
    · rw [if_neg e]; exact h.done j (by omega)
  · rw [getD_set x i j _ hl, if_neg (by omega)]; exact h.todo j (by omega) hn
theorem Fill.all {t s x : List UInt8} {n : Nat} (h : Fill t s x n n) (ht : t.length = n) : x = t := by
  refine List.ext_getElem (h.len.trans ht.symm) fun j h1 h2 => ?_
  have := h.done j (by rw [← ht]; exact h2)
  rw [List.getD_eq_getElem?_getD, List.getD_eq_getElem?_getD, List.getElem?_eq_getElem h1, List.getElem?_eq_getElem h2] at this
  exact this
theorem addL_get (l m : List UInt8) (i : Nat) (h1 : i < l.length) (h2 : i < m.length) : (addL l m).getD i 0 = l.getD i 0 ^^^ m.getD i 0 := by
  unfold addL
  rw [List.getD_eq_getElem?_getD, List.getD_eq_getElem?_getD, List.getD_eq_getElem?_getD, List.getElem?_zipWith, List.getElem?_eq_getElem h1, List.getElem?_eq_getElem h2]; rfl
theorem turnedL_get (b : List UInt8) (i : Nat) (h : i < 16) : (turnedL b).getD i 0 = subL (b.getD ((i + 4 * (i % 4)) % 16) 0) := by
  unfold turnedL
  rw [List.getD_eq_getElem?_getD, List.getElem?_map, List.getElem?_range h]; rfl
theorem mixedL_get (b : List UInt8) (i : Nat) (h : i < 16) : (mixedL b).getD i 0 = mixAt b i := by
  unfold mixedL
  rw [List.getD_eq_getElem?_getD, List.getElem?_map, List.getElem?_range h]; rfl
set_option maxHeartbeats 4000000 in
set_option maxRecDepth 20000 in
theorem whole_key (ws : List UInt8) (hw : ws.length = 176) (w : World) : Calls Try.prog 59 #[.agg (kcells ws).toArray] w fun e w' => e = .returned (.agg (kcells ws).toArray) ∧ Below w.heap.size w w' := by
  have hone := kcells_one ws
  have hKs : (kcells ws).toArray.size = 433 := by rw [List.size_toArray, kcells_len ws hw]
  have hK0 : (kcells ws).toArray[0]? = some (.bool true) := rfl
  obtain ⟨K, hK⟩ : ∃ K, (kcells ws).toArray = K := ⟨_, rfl⟩
  rw [hK] at hone hKs hK0 ⊢
  clear hK
  have hzs : Try.zeroCells29.size = 433 := by kernel_rfl
  go_enter Try.func59, Try.ntmps59
  go_upto_region 1 with fail
  refine wp_absQ (fun W => Below w.heap.size w W ∧ Blk W w.heap.size K 29 ∧ Blk W (w.heap.size + 1) Try.zeroCells29 29) ⟨by (repeat (first | (with_reducible assumption) | (with_reducible exact Below.refl _ _) | with_reducible apply bl_drewN | with_reducible apply Below.drew | (with_reducible apply bl_alloc; focus (first | (simp; done) | (simp; omega) | omega)) | (with_reducible apply bl_set; focus (first | (simp; done) | (simp; omega) | omega)))), by (repeat (first | (with_reducible assumption) | (with_reducible apply Blk.new'; (first | (with_reducible rfl) | (simp; done))) | with_reducible apply Blk.alloc | with_reducible apply Blk.set | ((with_reducible apply Blk.set_ne); focus (first | (simp; done) | (simp; omega))) | with_reducible apply Blk.drewN | with_reducible apply Blk.drew)), by (repeat (first | (with_reducible assumption) | (with_reducible apply Blk.new'; (first | (with_reducible rfl) | (simp; done))) | with_reducible apply Blk.alloc | with_reducible apply Blk.set | ((with_reducible apply Blk.set_ne); focus (first | (simp; done) | (simp; omega))) | with_reducible apply Blk.drewN | with_reducible apply Blk.drew))⟩ (fun W1 V1 => ?_)
  obtain ⟨HB1, K1, Z1⟩ := V1
  have c1 := K1.cell 0
  rw [hK0] at c1
  go_wp2_with (first | (refine wpList_load_row rfl 29 _ rfl w.heap.size rfl 29 _ (0, 0) _ K1.out Try.underlying29 rfl (by rw [hKs]; kernel_rfl) ?_) | (refine wpList_put rfl 29 _ _ rfl (w.heap.size + 1) _ _ 29 rfl rfl Z1 (by rw [hKs]; kernel_rfl) (hKs.trans hzs.symm) hone (fun W9 hp9 B9 => ?_)))
  refine bodyPost_ret (v := .agg K) ?_ rfl ⟨rfl, hp9.below (by omega) HB1⟩
  exact results_cell_row (Try.results59) _ _ (w.heap.size + 1) 29 _ (0, 0) _ rfl B9.out Try.underlying29 rfl (by rw [hKs]; kernel_rfl)
set_option maxHeartbeats 4000000 in
set_option maxRecDepth 20000 in
theorem add_any (l m : List UInt8) (hl : l.length = 16) (hm : m.length = 16) (w : World) : Calls Try.prog 60 #[.agg (bcells l), .agg (bcells m)] w fun e w' => e = .returned (.agg (bcells (addL l m))) ∧ Below w.heap.size w w' := by
  have hls := bcells_len l hl
  have hms := bcells_len m hm
  have hz := bcells_z
  go_enter Try.func60, Try.ntmps60
  go_upto_region 1 with fail
  refine wp_absQ (fun W => Below w.heap.size w W ∧ Blk W w.heap.size (bcells l) 25 ∧ Blk W (w.heap.size + 1) (bcells m) 25 ∧ Blk W (w.heap.size + 1 + 1) z16 25) ⟨by (repeat (first | (with_reducible assumption) | (with_reducible exact Below.refl _ _) | with_reducible apply bl_drewN | with_reducible apply Below.drew | (with_reducible apply bl_alloc; focus (first | (simp; done) | (simp; omega) | omega)) | (with_reducible apply bl_set; focus (first | (simp; done) | (simp; omega) | omega)))), by (repeat (first | (with_reducible assumption) | (with_reducible apply Blk.new'; (first | (with_reducible rfl) | (simp; done))) | with_reducible apply Blk.alloc | with_reducible apply Blk.set | ((with_reducible apply Blk.set_ne); focus (first | (simp; done) | (simp; omega))) | with_reducible apply Blk.drewN | with_reducible apply Blk.drew)), by (repeat (first | (with_reducible assumption) | (with_reducible apply Blk.new'; (first | (with_reducible rfl) | (simp; done))) | with_reducible apply Blk.alloc | with_reducible apply Blk.set | ((with_reducible apply Blk.set_ne); focus (first | (simp; done) | (simp; omega))) | with_reducible apply Blk.drewN | with_reducible apply Blk.drew)), Blk.new' (by simp)⟩ (fun W1 V1 => ?_)
  obtain ⟨HB1, L1, M1, Z1⟩ := V1
  obtain ⟨b, hb⟩ : ∃ b, w.heap.size = b := ⟨_, rfl⟩
  have HBb := Lib.hid hb
  rw [hb] at HB1 L1 M1 Z1 ⊢
  clear hb
  go_wp2_with fail
  go_loopg [6] 16 (fun gk t6 wr => ∃ (i : Nat) (x : List UInt8), i + gk = 16 ∧ t6 = .int .i64 (i : Int) ∧ Below b w wr ∧ Blk wr b (bcells x) 25 ∧ Blk wr (b + 1) (bcells m) 25 ∧ Blk wr (b + 1 + 1) z16 25 ∧ Fill (addL l m) l x 16 i)
  case atStart => exact ⟨0, l, rfl, rfl, HB1, L1, M1, Z1, .start hl⟩
  case round =>
    clear HB1 L1 M1 Z1 hls
    obtain ⟨i, x, hi, rfl, HB, L, M, Z, F⟩ := hrel
    cases gk with
    | zero =>
      obtain rfl : i = 16 := by omega
      clear hi
      rw [F.all (addL_len l m hl hm)] at L
      have hrs := bcells_len (addL l m) (addL_len l m hl hm)
      have hone := bcells_one (addL l m)
      obtain ⟨R, hR⟩ : ∃ R, bcells (addL l m) = R := ⟨_, rfl⟩
      rw [hR] at L hrs hone
      clear F
      go_wp2_with (first | (refine wpList_load_row rfl 25 _ rfl b rfl 25 _ (0, 0) _ L.out Try.underlying25 rfl (by rw [hrs]; kernel_rfl) ?_) | (refine wpList_put rfl 25 _ _ rfl (b + 1 + 1) _ _ 25 rfl rfl Z (by rw [hrs]; kernel_rfl) (hrs.trans rfl) hone (fun W9 hp9 B9 => ?_)))
      refine bodyPost_ret (v := .agg R) ?_ rfl ⟨by rw [hR], by rw [HBb.out]; exact hp9.below (by omega) HB⟩
      exact results_cell_row (Try.results60) _ _ (b + 1 + 1) 25 _ (0, 0) _ rfl B9.out Try.underlying25 rfl (by rw [hrs]; kernel_rfl)
    | succ g =>
      have hi16 : (i : Int) < 16 := by omega
      have hin : i < 16 := by omega
      have F2 := F.step hin
      rw [addL_get l m i (by omega) (by omega), ← F.todo i (Nat.le_refl _) hin] at F2
      have c1 := L.cell i
      have f1 := L.frozen i
      rw [bcells_get x i (by rw [F.len]; exact hin)] at c1
      have c2 := M.cell i
      rw [bcells_get m i (by omega)] at c2
      obtain ⟨p, hp⟩ : ∃ p, x.getD i 0 = p := ⟨_, rfl⟩
      obtain ⟨q, hq⟩ : ∃ p, m.getD i 0 = p := ⟨_, rfl⟩
      rw [hp, hq] at F2
      rw [hp] at c1; rw [hq] at c2
      have e1 := sum_xor8 p q
      obtain ⟨v, hv⟩ : ∃ v, p ^^^ q = v := ⟨_, rfl⟩
      rw [hv] at e1 F2
      have L2 := L.set (o := i) (v := .int .u8 ((v.toNat : Nat) : Int))
      rw [bcells_set] at L2
      have HI := Lib.hid hi; have HF := Lib.hid F2
      have hbl := L.lt
      clear hp hq hv hi F2 F
      go_wp2_with fail
      refine wp_region_gr_tail 8 (by kernel_rfl) (by kernel_rfl) ?_
      simp only [List.take_succ_cons, List.take_zero, List.drop_succ_cons, List.drop_zero]
      repeat (first
        | go_big_quiet_skip
        | ((refine BigFrame.wpQuiet_want rfl (fun K hK => quiet_mk ?_)); apply Exists.intro; refine ⟨fun wq hq => ?_, hK _ ?_⟩
           · have f0 := hq.cell c1; have f1 := hq.cell c2; go_simp; (try simp only [↓IntWalk.iteOmega]); (try go_bits)
             first | done | rfl | exact ⟨rfl, rfl⟩ | exact ⟨trivial, rfl⟩
           clear hK K; (try simp only [Act.put, List.setIfInBounds_toArray, List.set_cons_zero, List.set_cons_succ])))
      refine wpQuiet_nil ?_
      intro W10 hw10
      have c3 := hw10.cell c1
      have f3 := (L.gr hw10).frozen i
      have HBs : b ≤ wr.heap.size := by rw [← HBb.out]; exact HB.size
      have HB10 := Below.thn HB hw10.out HBs
      have L10 := L.gr hw10
      have L11 := L10.set (o := i) (v := .int .u8 ((v.toNat : Nat) : Int))
      rw [bcells_set] at L11
      have M11 := (M.gr hw10).set_ne (a := ⟨b, i, none⟩) (v := .int .u8 ((v.toNat : Nat) : Int)) (by show b + 1 ≠ b; omega)
      have Z11 := (Z.gr hw10).set_ne (a := ⟨b, i, none⟩) (v := .int .u8 ((v.toNat : Nat) : Int)) (by show b + 1 + 1 ≠ b; omega)
      have HB11 := HB10.setCell (p := ⟨b, i, none⟩) (Nat.le_refl _) (.int .u8 ((v.toNat : Nat) : Int))
      clear HB L M Z c1 c2 f1 e1 L2 hbl hw10 L10 HB10 HBs
      go_wp2_with fail
      go_roundg g
      case rel => exact ⟨i + 1, _, by have := HI.out; omega, by simp, HB11, L11, M11, Z11, HF.out⟩
      case measure => omega
set_option maxHeartbeats 4000000 in
set_option maxRecDepth 20000 in
theorem turned_any (ws l : List UInt8) (hw : ws.length = 176) (hl : l.length = 16) (kb : Nat) (w : World) (HK : Blk w kb (kcells ws).toArray 29) : Calls Try.prog 61 #[.pointer (some ⟨kb, 0, none⟩), .agg (bcells l)] w fun e w' => e = .returned (.agg (bcells (turnedL l))) ∧ Below w.heap.size w w' := by
  have hls := bcells_len l hl
  have hz := bcells_z
  go_enter Try.func61, Try.ntmps61
  go_upto_region 2 with fail
  refine wp_absQ (fun W => Below w.heap.size w W ∧ Blk W w.heap.size (bcells l) 25 ∧ Blk W (w.heap.size + 1) z16 25 ∧ Blk W (w.heap.size + 1 + 1) (bcells (List.replicate 16 0)) 25) ⟨by (repeat (first | (with_reducible assumption) | (with_reducible exact Below.refl _ _) | with_reducible apply bl_drewN | with_reducible apply Below.drew | (with_reducible apply bl_alloc; focus (first | (simp; done) | (simp; omega) | omega)) | (with_reducible apply bl_set; focus (first | (simp; done) | (simp; omega) | omega)))), by (repeat (first | (with_reducible assumption) | (with_reducible apply Blk.new'; (first | (with_reducible rfl) | (simp; done))) | with_reducible apply Blk.alloc | with_reducible apply Blk.set | ((with_reducible apply Blk.set_ne); focus (first | (simp; done) | (simp; omega))) | with_reducible apply Blk.drewN | with_reducible apply Blk.drew)), Blk.alloc (Blk.new' (by simp)), Blk.new' (by simp)⟩ (fun W1 V1 => ?_)
  obtain ⟨HB1, L1, Z1, M1⟩ := V1
  obtain ⟨b, hb⟩ : ∃ b, w.heap.size = b := ⟨_, rfl⟩
  have hkb : kb < b := by rw [← hb]; exact HK.lt
  have K1 := HK.below (w1 := W1) (by rw [hb]; rw [hb] at HB1; exact HB1)
  have HBb := Lib.hid hb
  rw [hb] at HB1 L1 M1 Z1 ⊢
  clear hb HK
  go_wp2_with fail
  go_loopg [7] 16 (fun gk t7 wr => ∃ (i : Nat) (x : List UInt8), i + gk = 16 ∧ t7 = .int .i64 (i : Int) ∧ Below b w wr ∧ Blk wr kb (kcells ws).toArray 29 ∧ Blk wr b (bcells l) 25 ∧ Blk wr (b + 1) z16 25 ∧ Blk wr (b + 1 + 1) (bcells x) 25 ∧ Fill (turnedL l) (List.replicate 16 0) x 16 i)
  case atStart => exact ⟨0, _, rfl, rfl, HB1, K1, L1, Z1, M1, .start (by simp)⟩
  case round =>
    clear HB1 L1 M1 Z1 K1 hls
    obtain ⟨i, x, hi, rfl, HB, K, L, Z, M, F⟩ := hrel
    cases gk with
    | zero =>
      obtain rfl : i = 16 := by omega
      clear hi
      rw [F.all (turnedL_len l)] at M
      have hrs := bcells_len (turnedL l) (turnedL_len l)
      have hone := bcells_one (turnedL l)
      obtain ⟨R, hR⟩ : ∃ R, bcells (turnedL l) = R := ⟨_, rfl⟩
      rw [hR] at M hrs hone
      clear F
      go_wp2_with (first | (refine wpList_load_row rfl 25 _ rfl (b + 1 + 1) rfl 25 _ (0, 0) _ M.out Try.underlying25 rfl (by rw [hrs]; kernel_rfl) ?_) | (refine wpList_put rfl 25 _ _ rfl (b + 1) _ _ 25 rfl rfl Z (by rw [hrs]; kernel_rfl) (hrs.trans rfl) hone (fun W9 hp9 B9 => ?_)))
      refine bodyPost_ret (v := .agg R) ?_ rfl ⟨by rw [hR], by rw [HBb.out]; exact hp9.below (by omega) HB⟩
      exact results_cell_row (Try.results61) _ _ (b + 1) 25 _ (0, 0) _ rfl B9.out Try.underlying25 rfl (by rw [hrs]; kernel_rfl)
    | succ g =>
      have hi16 : (i : Int) < 16 := by omega
      have hin : i < 16 := by omega
      have F2 := F.step hin
      rw [turnedL_get l i hin] at F2
      obtain ⟨a, ha⟩ : ∃ a, i % 4 = a := ⟨_, rfl⟩
      rw [ha] at F2
      obtain ⟨c, hc⟩ : ∃ c, 4 * a = c := ⟨_, rfl⟩
      rw [hc] at F2
      obtain ⟨d, hd⟩ : ∃ d, i + c = d := ⟨_, rfl⟩
      rw [hd] at F2
      obtain ⟨e, he⟩ : ∃ e, d % 16 = e := ⟨_, rfl⟩
      rw [he] at F2
      have he16 : e < 16 := by omega
      have i1 : (i : Int) % 4 = (a : Int) := by omega
      have i2 : (4 : Int) * (a : Int) = (c : Int) := by omega
      have i3 : (i : Int) + (c : Int) = (d : Int) := by omega
      have i4 : (d : Int) % 16 = (e : Int) := by omega
      have i5 : (e : Int) < 16 := by omega
      have c1 := L.cell e
      rw [bcells_get l e (by omega)] at c1
      obtain ⟨p, hp⟩ : ∃ p, l.getD e 0 = p := ⟨_, rfl⟩
      rw [hp] at c1 F2
      have p256 : ((p.toNat : Nat) : Int) < 256 := by have := p.toNat_lt; omega
      have c2 : wr.cell? ⟨kb, 177 + p.toNat, none⟩ = some (.int .u8 (((subL p).toNat : Nat) : Int)) := by
        rw [K.cell]; exact kcells_box ws _ hw p.toNat_lt
      obtain ⟨v, hv⟩ : ∃ v, subL p = v := ⟨_, rfl⟩
      rw [hv] at c2 F2
      have c3 : wr.cell? ⟨b + 1 + 1, i, none⟩ = _ := M.cell i
      rw [bcells_get x i (by rw [F.len]; exact hin)] at c3
      have HI := Lib.hid hi; have HF := Lib.hid F2
      clear hp hv hi F2 F ha hc hd he he16
      go_wp2_with fail
      refine wp_region_gr_tail 15 (by kernel_rfl) (by kernel_rfl) ?_
      simp only [List.take_succ_cons, List.take_zero, List.drop_succ_cons, List.drop_zero]
      repeat (first
        | go_big_quiet_skip
        | ((refine BigFrame.wpQuiet_want rfl (fun K hK => quiet_mk ?_)); apply Exists.intro; refine ⟨fun wq hq => ?_, hK _ ?_⟩
           · have f0 := hq.cell c1; have f1 := hq.cell c2; go_simp; (try simp only [↓IntWalk.iteOmega]); (try go_bits)
             first | done | rfl | exact ⟨rfl, rfl⟩ | exact ⟨trivial, rfl⟩
           clear hK K; (try simp only [Act.put, List.setIfInBounds_toArray, List.set_cons_zero, List.set_cons_succ])))
      refine wpQuiet_nil ?_
      intro W10 hw10
      have c4 := hw10.cell c3
      have f4 := (M.gr hw10).frozen i
      have HBs : b ≤ wr.heap.size := by rw [← HBb.out]; exact HB.size
      have HB10 := Below.thn HB hw10.out HBs
      have M11 := (M.gr hw10).set (o := i) (v := .int .u8 ((v.toNat : Nat) : Int))
      rw [bcells_set] at M11
      have L11 := (L.gr hw10).set_ne (a := ⟨b + 1 + 1, i, none⟩) (v := .int .u8 ((v.toNat : Nat) : Int)) (by show b ≠ b + 1 + 1; omega)
      have K11 := (K.gr hw10).set_ne (a := ⟨b + 1 + 1, i, none⟩) (v := .int .u8 ((v.toNat : Nat) : Int)) (by show kb ≠ b + 1 + 1; omega)
      have Z11 := (Z.gr hw10).set_ne (a := ⟨b + 1 + 1, i, none⟩) (v := .int .u8 ((v.toNat : Nat) : Int)) (by show b + 1 ≠ b + 1 + 1; omega)
      have HB11 := HB10.setCell (p := ⟨b + 1 + 1, i, none⟩) (by show b ≤ b + 1 + 1; omega) (.int .u8 ((v.toNat : Nat) : Int))
      clear HB L M K Z c1 c2 c3 hw10 HB10 HBs i1 i2 i3 i4 i5
      go_wp2_with fail
      go_roundg g
      case rel => exact ⟨i + 1, _, by have := HI.out; omega, by simp, HB11, K11, L11, Z11, M11, HF.out⟩
      case measure => omega
end Go.Proofs.Ytkblkdojmfgneaa
