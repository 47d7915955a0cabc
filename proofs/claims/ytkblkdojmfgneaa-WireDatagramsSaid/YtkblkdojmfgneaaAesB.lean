/- Package aes: whole, add, turned. Package aes: mixed. Package aes: Encrypt. Package aes: New, of a key that may not be. The law of AES: awake. -/
import Derived.Test.YtkblkdojmfgneaaAesA
namespace Go.Proofs.Ytkblkdojmfgneaa
open Go.RowKit

/-- A block's cells. -/
def bcells (l : List UInt8) : Array Value := (l.map bval).toArray
theorem bcells_len (l : List UInt8) (h : l.length = 16) : (bcells l).size = 16 := by simp [bcells, h]
theorem bcells_one (l : List UInt8) : (bcells l).all (·.oneCell') = true := bytes_one l
theorem bcells_get (l : List UInt8) (i : Nat) (h : i < l.length) : (bcells l)[i]? = some (.int .u8 (((l.getD i 0).toNat : Nat) : Int)) := bytes_get l i h
theorem bcells_set (l : List UInt8) (i : Nat) (c : UInt8) : (bcells l).setIfInBounds i (.int .u8 ((c.toNat : Nat) : Int)) = bcells (l.set i c) := bytes_set l i c
theorem bcells_z : bcells (List.replicate 16 0) = z16 := by kernel_rfl
theorem getD_set (x : List UInt8) (i j : Nat) (v : UInt8) (h : i < x.length) : (x.set i v).getD j 0 = if j = i then v else x.getD j 0 := by
  rw [List.getD_eq_getElem?_getD, List.getD_eq_getElem?_getD, List.getElem?_set]
  by_cases e : i = j
  · subst e; rw [if_pos rfl, if_pos h, if_pos rfl]; rfl
  · rw [if_neg e, if_neg (fun h => e h.symm)]
/-- A row that is being filled: the first i are the new ones. -/
structure Fill (t s x : List UInt8) (n i : Nat) : Prop where
  len : x.length = n
  done : ∀ j, j < i → x.getD j 0 = t.getD j 0
  todo : ∀ j, i ≤ j → j < n → x.getD j 0 = s.getD j 0
theorem Fill.start {t s : List UInt8} {n : Nat} (h : s.length = n) : Fill t s s n 0 := ⟨h, fun j hj => by omega, fun j _ _ => rfl⟩
theorem Fill.step {t s x : List UInt8} {n i : Nat} (h : Fill t s x n i) (hi : i < n) : Fill t s (x.set i (t.getD i 0)) n (i + 1) := by
  have hl : i < x.length := by rw [h.len]; exact hi
  refine ⟨by rw [List.length_set]; exact h.len, fun j hj => ?_, fun j hj hn => ?_⟩
  · rw [getD_set x i j _ hl]
    by_cases e : j = i
    · rw [if_pos e, e]
    · rw [if_neg e]; exact h.done j (by omega)
  · rw [getD_set x i j _ hl, if_neg (by omega)]; exact h.todo j (by omega) hn
theorem Fill.all {t s x : List UInt8} {n : Nat} (h : Fill t s x n n) (ht : t.length = n) : x = t := by
  refine List.ext_getElem (h.len.trans ht.symm) fun j h1 h2 => ?_
  have := h.done j (by rw [← ht]; exact h2)
  rw [List.getD_eq_getElem?_getD, List.getD_eq_getElem?_getD, List.getElem?_eq_getElem h1, List.getElem?_eq_getElem h2] at this
  exact this
theorem addL_get (l m : List UInt8) (i : Nat) (h1 : i < l.length) (h2 : i < m.length) : (addL l m).getD i 0 = l.getD i 0 ^^^ m.getD i 0 := by
  unfold addL
  rw [List.getD_eq_getElem?_getD, List.getD_eq_getElem?_getD, List.getD_eq_getElem?_getD, List.getElem?_zipWith, List.getElem?_eq_getElem h1, List.getElem?_eq_getElem h2]; rfl
theorem turnedL_get (b : List UInt8) (i : Nat) (h : i < 16) : (turnedL b).getD i 0 = subL (b.getD ((i + 4 * (i % 4)) % 16) 0) := by
  unfold turnedL
  rw [List.getD_eq_getElem?_getD, List.getElem?_map, List.getElem?_range h]; rfl
theorem mixedL_get (b : List UInt8) (i : Nat) (h : i < 16) : (mixedL b).getD i 0 = mixAt b i := by
  unfold mixedL
  rw [List.getD_eq_getElem?_getD, List.getElem?_map, List.getElem?_range h]; rfl
set_option maxHeartbeats 4000000 in
set_option maxRecDepth 20000 in
theorem whole_key (ws : List UInt8) (hw : ws.length = 176) (w : World) : Calls Try.prog 59 #[.agg (kcells ws).toArray] w fun e w' => e = .returned (.agg (kcells ws).toArray) ∧ Below w.heap.size w w' := by
  have hone := kcells_one ws
  have hKs : (kcells ws).toArray.size = 433 := by rw [List.size_toArray, kcells_len ws hw]
  have hK0 : (kcells ws).toArray[0]? = some (.bool true) := rfl
  obtain ⟨K, hK⟩ : ∃ K, (kcells ws).toArray = K := ⟨_, rfl⟩
  rw [hK] at hone hKs hK0 ⊢
  clear hK
  have hzs : Try.zeroCells29.size = 433 := by kernel_rfl
  go_enter Try.func59, Try.ntmps59
  go_upto_region 1 with fail
  refine wp_absQ (fun W => Below w.heap.size w W ∧ Blk W w.heap.size K 29 ∧ Blk W (w.heap.size + 1) Try.zeroCells29 29) ⟨by (repeat (first | (with_reducible assumption) | (with_reducible exact Below.refl _ _) | with_reducible apply bl_drewN | with_reducible apply Below.drew | (with_reducible apply bl_alloc; focus (first | (simp; done) | (simp; omega) | omega)) | (with_reducible apply bl_set; focus (first | (simp; done) | (simp; omega) | omega)))), by (repeat (first | (with_reducible assumption) | (with_reducible apply Blk.new'; (first | (with_reducible rfl) | (simp; done))) | with_reducible apply Blk.alloc | with_reducible apply Blk.set | ((with_reducible apply Blk.set_ne); focus (first | (simp; done) | (simp; omega))) | with_reducible apply Blk.drewN | with_reducible apply Blk.drew)), by (repeat (first | (with_reducible assumption) | (with_reducible apply Blk.new'; (first | (with_reducible rfl) | (simp; done))) | with_reducible apply Blk.alloc | with_reducible apply Blk.set | ((with_reducible apply Blk.set_ne); focus (first | (simp; done) | (simp; omega))) | with_reducible apply Blk.drewN | with_reducible apply Blk.drew))⟩ (fun W1 V1 => ?_)
  obtain ⟨HB1, K1, Z1⟩ := V1
  have c1 := K1.cell 0
  rw [hK0] at c1
  go_wp2_with (first | (refine wpList_load_row rfl 29 _ rfl w.heap.size rfl 29 _ (0, 0) _ K1.out Try.underlying29 rfl (by rw [hKs]; kernel_rfl) ?_) | (refine wpList_put rfl 29 _ _ rfl (w.heap.size + 1) _ _ 29 rfl rfl Z1 (by rw [hKs]; kernel_rfl) (hKs.trans hzs.symm) hone (fun W9 hp9 B9 => ?_)))
  refine bodyPost_ret (v := .agg K) ?_ rfl ⟨rfl, hp9.below (by omega) HB1⟩
  exact results_cell_row (Try.results59) _ _ (w.heap.size + 1) 29 _ (0, 0) _ rfl B9.out Try.underlying29 rfl (by rw [hKs]; kernel_rfl)
set_option maxHeartbeats 4000000 in
set_option maxRecDepth 20000 in
theorem add_any (l m : List UInt8) (hl : l.length = 16) (hm : m.length = 16) (w : World) : Calls Try.prog 60 #[.agg (bcells l), .agg (bcells m)] w fun e w' => e = .returned (.agg (bcells (addL l m))) ∧ Below w.heap.size w w' := by
  have hls := bcells_len l hl
  have hms := bcells_len m hm
  have hz := bcells_z
  go_enter Try.func60, Try.ntmps60
  go_upto_region 1 with fail
  refine wp_absQ (fun W => Below w.heap.size w W ∧ Blk W w.heap.size (bcells l) 25 ∧ Blk W (w.heap.size + 1) (bcells m) 25 ∧ Blk W (w.heap.size + 1 + 1) z16 25) ⟨by (repeat (first | (with_reducible assumption) | (with_reducible exact Below.refl _ _) | with_reducible apply bl_drewN | with_reducible apply Below.drew | (with_reducible apply bl_alloc; focus (first | (simp; done) | (simp; omega) | omega)) | (with_reducible apply bl_set; focus (first | (simp; done) | (simp; omega) | omega)))), by (repeat (first | (with_reducible assumption) | (with_reducible apply Blk.new'; (first | (with_reducible rfl) | (simp; done))) | with_reducible apply Blk.alloc | with_reducible apply Blk.set | ((with_reducible apply Blk.set_ne); focus (first | (simp; done) | (simp; omega))) | with_reducible apply Blk.drewN | with_reducible apply Blk.drew)), by (repeat (first | (with_reducible assumption) | (with_reducible apply Blk.new'; (first | (with_reducible rfl) | (simp; done))) | with_reducible apply Blk.alloc | with_reducible apply Blk.set | ((with_reducible apply Blk.set_ne); focus (first | (simp; done) | (simp; omega))) | with_reducible apply Blk.drewN | with_reducible apply Blk.drew)), Blk.new' (by simp)⟩ (fun W1 V1 => ?_)
  obtain ⟨HB1, L1, M1, Z1⟩ := V1
  obtain ⟨b, hb⟩ : ∃ b, w.heap.size = b := ⟨_, rfl⟩
  have HBb := Lib.hid hb
  rw [hb] at HB1 L1 M1 Z1 ⊢
  clear hb
  go_wp2_with fail
  go_loopg [6] 16 (fun gk t6 wr => ∃ (i : Nat) (x : List UInt8), i + gk = 16 ∧ t6 = .int .i64 (i : Int) ∧ Below b w wr ∧ Blk wr b (bcells x) 25 ∧ Blk wr (b + 1) (bcells m) 25 ∧ Blk wr (b + 1 + 1) z16 25 ∧ Fill (addL l m) l x 16 i)
  case atStart => exact ⟨0, l, rfl, rfl, HB1, L1, M1, Z1, .start hl⟩
  case round =>
    clear HB1 L1 M1 Z1 hls
    obtain ⟨i, x, hi, rfl, HB, L, M, Z, F⟩ := hrel
    cases gk with
    | zero =>
      obtain rfl : i = 16 := by omega
      clear hi
      rw [F.all (addL_len l m hl hm)] at L
      have hrs := bcells_len (addL l m) (addL_len l m hl hm)
      have hone := bcells_one (addL l m)
      obtain ⟨R, hR⟩ : ∃ R, bcells (addL l m) = R := ⟨_, rfl⟩
      rw [hR] at L hrs hone
      clear F
      go_wp2_with (first | (refine wpList_load_row rfl 25 _ rfl b rfl 25 _ (0, 0) _ L.out Try.underlying25 rfl (by rw [hrs]; kernel_rfl) ?_) | (refine wpList_put rfl 25 _ _ rfl (b + 1 + 1) _ _ 25 rfl rfl Z (by rw [hrs]; kernel_rfl) (hrs.trans rfl) hone (fun W9 hp9 B9 => ?_)))
      refine bodyPost_ret (v := .agg R) ?_ rfl ⟨by rw [hR], by rw [HBb.out]; exact hp9.below (by omega) HB⟩
      exact results_cell_row (Try.results60) _ _ (b + 1 + 1) 25 _ (0, 0) _ rfl B9.out Try.underlying25 rfl (by rw [hrs]; kernel_rfl)
    | succ g =>
      have hi16 : (i : Int) < 16 := by omega
      have hin : i < 16 := by omega
      have F2 := F.step hin
      rw [addL_get l m i (by omega) (by omega), ← F.todo i (Nat.le_refl _) hin] at F2
      have c1 := L.cell i
      have f1 := L.frozen i
      rw [bcells_get x i (by rw [F.len]; exact hin)] at c1
      have c2 := M.cell i
      rw [bcells_get m i (by omega)] at c2
      obtain ⟨p, hp⟩ : ∃ p, x.getD i 0 = p := ⟨_, rfl⟩
      obtain ⟨q, hq⟩ : ∃ p, m.getD i 0 = p := ⟨_, rfl⟩
      rw [hp, hq] at F2
      rw [hp] at c1; rw [hq] at c2
      have e1 := sum_xor8 p q
      obtain ⟨v, hv⟩ : ∃ v, p ^^^ q = v := ⟨_, rfl⟩
      rw [hv] at e1 F2
      have L2 := L.set (o := i) (v := .int .u8 ((v.toNat : Nat) : Int))
      rw [bcells_set] at L2
      have HI := Lib.hid hi; have HF := Lib.hid F2
      have hbl := L.lt
      clear hp hq hv hi F2 F
      go_wp2_with fail
      refine wp_region_gr_tail 8 (by kernel_rfl) (by kernel_rfl) ?_
      simp only [List.take_succ_cons, List.take_zero, List.drop_succ_cons, List.drop_zero]
      repeat (first
        | go_big_quiet_skip
        | ((refine BigFrame.wpQuiet_want rfl (fun K hK => quiet_mk ?_)); apply Exists.intro; refine ⟨fun wq hq => ?_, hK _ ?_⟩
           · have f0 := hq.cell c1; have f1 := hq.cell c2; go_simp; (try simp only [↓IntWalk.iteOmega]); (try go_bits)
             first | done | rfl | exact ⟨rfl, rfl⟩ | exact ⟨trivial, rfl⟩
           clear hK K; (try simp only [Act.put, List.setIfInBounds_toArray, List.set_cons_zero, List.set_cons_succ])))
      refine wpQuiet_nil ?_
      intro W10 hw10
      have c3 := hw10.cell c1
      have f3 := (L.gr hw10).frozen i
      have HBs : b ≤ wr.heap.size := by rw [← HBb.out]; exact HB.size
      have HB10 := Below.thn HB hw10.out HBs
      have L10 := L.gr hw10
      have L11 := L10.set (o := i) (v := .int .u8 ((v.toNat : Nat) : Int))
      rw [bcells_set] at L11
      have M11 := (M.gr hw10).set_ne (a := ⟨b, i, none⟩) (v := .int .u8 ((v.toNat : Nat) : Int)) (by show b + 1 ≠ b; omega)
      have Z11 := (Z.gr hw10).set_ne (a := ⟨b, i, none⟩) (v := .int .u8 ((v.toNat : Nat) : Int)) (by show b + 1 + 1 ≠ b; omega)
      have HB11 := HB10.setCell (p := ⟨b, i, none⟩) (Nat.le_refl _) (.int .u8 ((v.toNat : Nat) : Int))
      clear HB L M Z c1 c2 f1 e1 L2 hbl hw10 L10 HB10 HBs
      go_wp2_with fail
      go_roundg g
      case rel => exact ⟨i + 1, _, by have := HI.out; omega, by simp, HB11, L11, M11, Z11, HF.out⟩
      case measure => omega
set_option maxHeartbeats 4000000 in
set_option maxRecDepth 20000 in
theorem turned_any (ws l : List UInt8) (hw : ws.length = 176) (hl : l.length = 16) (kb : Nat) (w : World) (HK : Blk w kb (kcells ws).toArray 29) : Calls Try.prog 61 #[.pointer (some ⟨kb, 0, none⟩), .agg (bcells l)] w fun e w' => e = .returned (.agg (bcells (turnedL l))) ∧ Below w.heap.size w w' := by
  have hls := bcells_len l hl
  have hz := bcells_z
  go_enter Try.func61, Try.ntmps61
  go_upto_region 2 with fail
  refine wp_absQ (fun W => Below w.heap.size w W ∧ Blk W w.heap.size (bcells l) 25 ∧ Blk W (w.heap.size + 1) z16 25 ∧ Blk W (w.heap.size + 1 + 1) (bcells (List.replicate 16 0)) 25) ⟨by (repeat (first | (with_reducible assumption) | (with_reducible exact Below.refl _ _) | with_reducible apply bl_drewN | with_reducible apply Below.drew | (with_reducible apply bl_alloc; focus (first | (simp; done) | (simp; omega) | omega)) | (with_reducible apply bl_set; focus (first | (simp; done) | (simp; omega) | omega)))), by (repeat (first | (with_reducible assumption) | (with_reducible apply Blk.new'; (first | (with_reducible rfl) | (simp; done))) | with_reducible apply Blk.alloc | with_reducible apply Blk.set | ((with_reducible apply Blk.set_ne); focus (first | (simp; done) | (simp; omega))) | with_reducible apply Blk.drewN | with_reducible apply Blk.drew)), Blk.alloc (Blk.new' (by simp)), Blk.new' (by simp)⟩ (fun W1 V1 => ?_)
  obtain ⟨HB1, L1, Z1, M1⟩ := V1
  obtain ⟨b, hb⟩ : ∃ b, w.heap.size = b := ⟨_, rfl⟩
  have hkb : kb < b := by rw [← hb]; exact HK.lt
  have K1 := HK.below (w1 := W1) (by rw [hb]; rw [hb] at HB1; exact HB1)
  have HBb := Lib.hid hb
  rw [hb] at HB1 L1 M1 Z1 ⊢
  clear hb HK
  go_wp2_with fail
  go_loopg [7] 16 (fun gk t7 wr => ∃ (i : Nat) (x : List UInt8), i + gk = 16 ∧ t7 = .int .i64 (i : Int) ∧ Below b w wr ∧ Blk wr kb (kcells ws).toArray 29 ∧ Blk wr b (bcells l) 25 ∧ Blk wr (b + 1) z16 25 ∧ Blk wr (b + 1 + 1) (bcells x) 25 ∧ Fill (turnedL l) (List.replicate 16 0) x 16 i)
  case atStart => exact ⟨0, _, rfl, rfl, HB1, K1, L1, Z1, M1, .start (by simp)⟩
  case round =>
    clear HB1 L1 M1 Z1 K1 hls
    obtain ⟨i, x, hi, rfl, HB, K, L, Z, M, F⟩ := hrel
    cases gk with
    | zero =>
      obtain rfl : i = 16 := by omega
      clear hi
      rw [F.all (turnedL_len l)] at M
      have hrs := bcells_len (turnedL l) (turnedL_len l)
      have hone := bcells_one (turnedL l)
      obtain ⟨R, hR⟩ : ∃ R, bcells (turnedL l) = R := ⟨_, rfl⟩
      rw [hR] at M hrs hone
      clear F
      go_wp2_with (first | (refine wpList_load_row rfl 25 _ rfl (b + 1 + 1) rfl 25 _ (0, 0) _ M.out Try.underlying25 rfl (by rw [hrs]; kernel_rfl) ?_) | (refine wpList_put rfl 25 _ _ rfl (b + 1) _ _ 25 rfl rfl Z (by rw [hrs]; kernel_rfl) (hrs.trans rfl) hone (fun W9 hp9 B9 => ?_)))
      refine bodyPost_ret (v := .agg R) ?_ rfl ⟨by rw [hR], by rw [HBb.out]; exact hp9.below (by omega) HB⟩
      exact results_cell_row (Try.results61) _ _ (b + 1) 25 _ (0, 0) _ rfl B9.out Try.underlying25 rfl (by rw [hrs]; kernel_rfl)
    | succ g =>
      have hi16 : (i : Int) < 16 := by omega
      have hin : i < 16 := by omega
      have F2 := F.step hin
      rw [turnedL_get l i hin] at F2
      obtain ⟨a, ha⟩ : ∃ a, i % 4 = a := ⟨_, rfl⟩
      rw [ha] at F2
      obtain ⟨c, hc⟩ : ∃ c, 4 * a = c := ⟨_, rfl⟩
      rw [hc] at F2
      obtain ⟨d, hd⟩ : ∃ d, i + c = d := ⟨_, rfl⟩
      rw [hd] at F2
      obtain ⟨e, he⟩ : ∃ e, d % 16 = e := ⟨_, rfl⟩
      rw [he] at F2
      have he16 : e < 16 := by omega
      have i1 : (i : Int) % 4 = (a : Int) := by omega
      have i2 : (4 : Int) * (a : Int) = (c : Int) := by omega
      have i3 : (i : Int) + (c : Int) = (d : Int) := by omega
      have i4 : (d : Int) % 16 = (e : Int) := by omega
      have i5 : (e : Int) < 16 := by omega
      have c1 := L.cell e
      rw [bcells_get l e (by omega)] at c1
      obtain ⟨p, hp⟩ : ∃ p, l.getD e 0 = p := ⟨_, rfl⟩
      rw [hp] at c1 F2
      have p256 : ((p.toNat : Nat) : Int) < 256 := by have := p.toNat_lt; omega
      have c2 : wr.cell? ⟨kb, 177 + p.toNat, none⟩ = some (.int .u8 (((subL p).toNat : Nat) : Int)) := by
        rw [K.cell]; exact kcells_box ws _ hw p.toNat_lt
      obtain ⟨v, hv⟩ : ∃ v, subL p = v := ⟨_, rfl⟩
      rw [hv] at c2 F2
      have c3 : wr.cell? ⟨b + 1 + 1, i, none⟩ = _ := M.cell i
      rw [bcells_get x i (by rw [F.len]; exact hin)] at c3
      have HI := Lib.hid hi; have HF := Lib.hid F2
      clear hp hv hi F2 F ha hc hd he he16
      go_wp2_with fail
      refine wp_region_gr_tail 15 (by kernel_rfl) (by kernel_rfl) ?_
      simp only [List.take_succ_cons, List.take_zero, List.drop_succ_cons, List.drop_zero]
      repeat (first
        | go_big_quiet_skip
        | ((refine BigFrame.wpQuiet_want rfl (fun K hK => quiet_mk ?_)); apply Exists.intro; refine ⟨fun wq hq => ?_, hK _ ?_⟩
           · have f0 := hq.cell c1; have f1 := hq.cell c2; go_simp; (try simp only [↓IntWalk.iteOmega]); (try go_bits)
             first | done | rfl | exact ⟨rfl, rfl⟩ | exact ⟨trivial, rfl⟩
           clear hK K; (try simp only [Act.put, List.setIfInBounds_toArray, List.set_cons_zero, List.set_cons_succ])))
      refine wpQuiet_nil ?_
      intro W10 hw10
      have c4 := hw10.cell c3
      have f4 := (M.gr hw10).frozen i
      have HBs : b ≤ wr.heap.size := by rw [← HBb.out]; exact HB.size
      have HB10 := Below.thn HB hw10.out HBs
      have M11 := (M.gr hw10).set (o := i) (v := .int .u8 ((v.toNat : Nat) : Int))
      rw [bcells_set] at M11
      have L11 := (L.gr hw10).set_ne (a := ⟨b + 1 + 1, i, none⟩) (v := .int .u8 ((v.toNat : Nat) : Int)) (by show b ≠ b + 1 + 1; omega)
      have K11 := (K.gr hw10).set_ne (a := ⟨b + 1 + 1, i, none⟩) (v := .int .u8 ((v.toNat : Nat) : Int)) (by show kb ≠ b + 1 + 1; omega)
      have Z11 := (Z.gr hw10).set_ne (a := ⟨b + 1 + 1, i, none⟩) (v := .int .u8 ((v.toNat : Nat) : Int)) (by show b + 1 ≠ b + 1 + 1; omega)
      have HB11 := HB10.setCell (p := ⟨b + 1 + 1, i, none⟩) (by show b ≤ b + 1 + 1; omega) (.int .u8 ((v.toNat : Nat) : Int))
      clear HB L M K Z c1 c2 c3 hw10 HB10 HBs i1 i2 i3 i4 i5
      go_wp2_with fail
      go_roundg g
      case rel => exact ⟨i + 1, _, by have := HI.out; omega, by simp, HB11, K11, L11, Z11, M11, HF.out⟩
      case measure => omega
end Go.Proofs.Ytkblkdojmfgneaa

namespace Go.Proofs.Ytkblkdojmfgneaa
open Go.RowKit

set_option maxHeartbeats 4000000 in
set_option maxRecDepth 20000 in
theorem at_any (l : List UInt8) (hl : l.length = 16) (bb cb ib i c n k : Nat) (hk : c + (i + n) % 4 = k) (hk16 : k < 16) (hi : i < 16) (hn : n < 4) (w : World) (L : Blk w bb (bcells l) 25)
    (C : w.cell? ⟨cb, 0, none⟩ = some (.int .i64 (c : Int))) (I : w.cell? ⟨ib, 0, none⟩ = some (.int .i64 (i : Int))) :
    Calls Try.prog 85 #[.int .i64 (n : Int), .pointer (some ⟨bb, 0, none⟩), .pointer (some ⟨cb, 0, none⟩), .pointer (some ⟨ib, 0, none⟩)] w fun e w' => e = .returned (.int .u8 (((l.getD k 0).toNat : Nat) : Int)) ∧ Below w.heap.size w w' := by
  have c1 := L.cell k
  rw [bcells_get l k (by omega)] at c1
  obtain ⟨s, hs⟩ : ∃ s, i + n = s := ⟨_, rfl⟩
  obtain ⟨r, hr⟩ : ∃ r, s % 4 = r := ⟨_, rfl⟩
  rw [hs, hr] at hk
  have i1 : (i : Int) + (n : Int) = (s : Int) := by omega
  have i2 : (s : Int) % 4 = (r : Int) := by omega
  have i3 : (c : Int) + (r : Int) = (k : Int) := by omega
  have i4 : (k : Int) < 16 := by omega
  obtain ⟨x, hx⟩ : ∃ x, l.getD k 0 = x := ⟨_, rfl⟩
  rw [hx] at c1 ⊢
  clear hs hr hk hx
  go_enter Try.func85, Try.ntmps85
  go_wp2_with fail
  go_ret
  exact ⟨rfl, Below.refl _ _⟩
theorem andnot3 (i : Nat) (h : i < 16) : bits .andNot .i64 (i : Int) 3 = ((i / 4 * 4 : Nat) : Int) := by
  have : i = 0 ∨ i = 1 ∨ i = 2 ∨ i = 3 ∨ i = 4 ∨ i = 5 ∨ i = 6 ∨ i = 7 ∨ i = 8 ∨ i = 9 ∨ i = 10 ∨ i = 11 ∨ i = 12 ∨ i = 13 ∨ i = 14 ∨ i = 15 := by omega
  rcases this with rfl | rfl | rfl | rfl | rfl | rfl | rfl | rfl | rfl | rfl | rfl | rfl | rfl | rfl | rfl | rfl <;> rfl
set_option maxHeartbeats 8000000 in
set_option maxRecDepth 20000 in
theorem mixed_any (l : List UInt8) (hl : l.length = 16) (w : World) : Calls Try.prog 62 #[.agg (bcells l)] w fun e w' => e = .returned (.agg (bcells (mixedL l))) ∧ Below w.heap.size w w' := by
  have hls := bcells_len l hl
  go_enter Try.func62, Try.ntmps62
  go_upto_region 2 with fail
  refine wp_absQ (fun W => Below w.heap.size w W ∧ Blk W w.heap.size (bcells l) 25 ∧ Blk W (w.heap.size + 1) z16 25 ∧ Blk W (w.heap.size + 1 + 1) (bcells (List.replicate 16 0)) 25) ⟨by (repeat (first | (with_reducible assumption) | (with_reducible exact Below.refl _ _) | with_reducible apply bl_drewN | with_reducible apply Below.drew | (with_reducible apply bl_alloc; focus (first | (simp; done) | (simp; omega) | omega)) | (with_reducible apply bl_set; focus (first | (simp; done) | (simp; omega) | omega)))), by (repeat (first | (with_reducible assumption) | (with_reducible apply Blk.new'; (first | (with_reducible rfl) | (simp; done))) | with_reducible apply Blk.alloc | with_reducible apply Blk.set | ((with_reducible apply Blk.set_ne); focus (first | (simp; done) | (simp; omega))) | with_reducible apply Blk.drewN | with_reducible apply Blk.drew)), Blk.alloc (Blk.new' (by simp)), Blk.new' (by simp)⟩ (fun W1 V1 => ?_)
  obtain ⟨HB1, L1, Z1, M1⟩ := V1
  obtain ⟨b, hb⟩ : ∃ b, w.heap.size = b := ⟨_, rfl⟩
  have HBb := Lib.hid hb
  rw [hb] at HB1 L1 M1 Z1 ⊢
  clear hb
  go_wp2_with fail
  go_loopg [7] 16 (fun gk t7 wr => ∃ (i : Nat) (x : List UInt8), i + gk = 16 ∧ t7 = .int .i64 (i : Int) ∧ Below b w wr ∧ Blk wr b (bcells l) 25 ∧ Blk wr (b + 1) z16 25 ∧ Blk wr (b + 1 + 1) (bcells x) 25 ∧ Fill (mixedL l) (List.replicate 16 0) x 16 i)
  case atStart => exact ⟨0, _, rfl, rfl, HB1, L1, Z1, M1, .start (by simp)⟩
  case round =>
    clear HB1 L1 M1 Z1 hls
    obtain ⟨i, x, hi, rfl, HB, L, Z, M, F⟩ := hrel
    cases gk with
    | zero =>
      obtain rfl : i = 16 := by omega
      clear hi
      rw [F.all (mixedL_len l)] at M
      have hrs := bcells_len (mixedL l) (mixedL_len l)
      have hone := bcells_one (mixedL l)
      obtain ⟨R, hR⟩ : ∃ R, bcells (mixedL l) = R := ⟨_, rfl⟩
      rw [hR] at M hrs hone
      clear F
      go_wp2_with (first | (refine wpList_load_row rfl 25 _ rfl (b + 1 + 1) rfl 25 _ (0, 0) _ M.out Try.underlying25 rfl (by rw [hrs]; kernel_rfl) ?_) | (refine wpList_put rfl 25 _ _ rfl (b + 1) _ _ 25 rfl rfl Z (by rw [hrs]; kernel_rfl) (hrs.trans rfl) hone (fun W9 hp9 B9 => ?_)))
      refine bodyPost_ret (v := .agg R) ?_ rfl ⟨by rw [hR], by rw [HBb.out]; exact hp9.below (by omega) HB⟩
      exact results_cell_row (Try.results62) _ _ (b + 1) 25 _ (0, 0) _ rfl B9.out Try.underlying25 rfl (by rw [hrs]; kernel_rfl)
    | succ g =>
      have hi16 : (i : Int) < 16 := by omega
      have hin : i < 16 := by omega
      have F2 := F.step hin
      rw [mixedL_get l i hin] at F2
      have HBs : b ≤ wr.heap.size := by rw [← HBb.out]; exact HB.size
      obtain ⟨c, hc⟩ : ∃ c, i / 4 * 4 = c := ⟨_, rfl⟩
      have hand := andnot3 i hin
      rw [hc] at hand
      go_upto_region 7 with fail
      refine wp_absQ (fun W => Below b w W ∧ Blk W b (bcells l) 25 ∧ Blk W (b + 1) z16 25 ∧ Blk W (b + 1 + 1) (bcells x) 25 ∧ W.cell? ⟨wr.heap.size, 0, none⟩ = some (.int .i64 (i : Int)) ∧ W.cell? ⟨wr.heap.size + 1, 0, none⟩ = some (.int .i64 (c : Int)) ∧ b + 1 + 1 < wr.heap.size ∧ b ≤ W.heap.size) ⟨by (repeat (first | (with_reducible assumption) | (with_reducible exact Below.refl _ _) | with_reducible apply bl_drewN | with_reducible apply Below.drew | (with_reducible apply bl_alloc; focus (first | (simp; done) | (simp; omega) | omega)) | (with_reducible apply bl_set; focus (first | (simp; done) | (simp; omega) | omega)))), Blk.alloc (Blk.alloc L), Blk.alloc (Blk.alloc Z), Blk.alloc (Blk.alloc M), by simp, by simp, M.lt, by simp; omega⟩ (fun W7 V7 => ?_)
      obtain ⟨wi, hwi⟩ : ∃ wi, wr.heap.size = wi := ⟨_, rfl⟩
      rw [hwi] at V7 ⊢
      clear hwi L Z M HB HBs
      obtain ⟨HB7, L7, Z7, M7, I7, C7, hwl, HBs⟩ := V7
      have hc16 : c ≤ 12 := by omega
      have at0 : ∀ W, Gr W7 W → Calls Try.prog 85 #[.int .i64 0, .pointer (some ⟨b, 0, none⟩), .pointer (some ⟨wi + 1, 0, none⟩), .pointer (some ⟨wi, 0, none⟩)] W fun e w' => e = .returned (.int .u8 (((l.getD (c + (i + 0) % 4) 0).toNat : Nat) : Int)) ∧ Below W.heap.size W w' := fun W hq =>
        at_any l hl b (wi + 1) wi i c 0 _ rfl (by omega) hin (by decide) W (L7.gr hq) (hq.cell C7) (hq.cell I7)
      obtain ⟨g0, hg0⟩ : ∃ g, l.getD (c + (i + 0) % 4) 0 = g := ⟨_, rfl⟩
      rw [hg0] at at0
      have AT0 := Lib.hid at0
      have at1 : ∀ W, Gr W7 W → Calls Try.prog 85 #[.int .i64 1, .pointer (some ⟨b, 0, none⟩), .pointer (some ⟨wi + 1, 0, none⟩), .pointer (some ⟨wi, 0, none⟩)] W fun e w' => e = .returned (.int .u8 (((l.getD (c + (i + 1) % 4) 0).toNat : Nat) : Int)) ∧ Below W.heap.size W w' := fun W hq =>
        at_any l hl b (wi + 1) wi i c 1 _ rfl (by omega) hin (by decide) W (L7.gr hq) (hq.cell C7) (hq.cell I7)
      obtain ⟨g1, hg1⟩ : ∃ g, l.getD (c + (i + 1) % 4) 0 = g := ⟨_, rfl⟩
      rw [hg1] at at1
      have AT1 := Lib.hid at1
      have at2 : ∀ W, Gr W7 W → Calls Try.prog 85 #[.int .i64 2, .pointer (some ⟨b, 0, none⟩), .pointer (some ⟨wi + 1, 0, none⟩), .pointer (some ⟨wi, 0, none⟩)] W fun e w' => e = .returned (.int .u8 (((l.getD (c + (i + 2) % 4) 0).toNat : Nat) : Int)) ∧ Below W.heap.size W w' := fun W hq =>
        at_any l hl b (wi + 1) wi i c 2 _ rfl (by omega) hin (by decide) W (L7.gr hq) (hq.cell C7) (hq.cell I7)
      obtain ⟨g2, hg2⟩ : ∃ g, l.getD (c + (i + 2) % 4) 0 = g := ⟨_, rfl⟩
      rw [hg2] at at2
      have AT2 := Lib.hid at2
      have at3 : ∀ W, Gr W7 W → Calls Try.prog 85 #[.int .i64 3, .pointer (some ⟨b, 0, none⟩), .pointer (some ⟨wi + 1, 0, none⟩), .pointer (some ⟨wi, 0, none⟩)] W fun e w' => e = .returned (.int .u8 (((l.getD (c + (i + 3) % 4) 0).toNat : Nat) : Int)) ∧ Below W.heap.size W w' := fun W hq =>
        at_any l hl b (wi + 1) wi i c 3 _ rfl (by omega) hin (by decide) W (L7.gr hq) (hq.cell C7) (hq.cell I7)
      obtain ⟨g3, hg3⟩ : ∃ g, l.getD (c + (i + 3) % 4) 0 = g := ⟨_, rfl⟩
      rw [hg3] at at3
      have AT3 := Lib.hid at3
      have hmix : mixAt l i = timesL g0 2 ^^^ timesL g1 3 ^^^ g2 ^^^ g3 := by
        unfold mixAt
        simp only [hc, hg0, hg1, hg2, hg3]
      rw [hmix] at F2
      have tm0 := fun W => times_any g0 2 W
      have tm1 := fun W => times_any g1 3 W
      rw [show (((2 : UInt8).toNat : Nat) : Int) = 2 from rfl] at tm0
      rw [show (((3 : UInt8).toNat : Nat) : Int) = 3 from rfl] at tm1
      obtain ⟨p0, hp0⟩ : ∃ p, timesL g0 2 = p := ⟨_, rfl⟩
      obtain ⟨p1, hp1⟩ : ∃ p, timesL g1 3 = p := ⟨_, rfl⟩
      rw [hp0] at tm0 F2; rw [hp1] at tm1 F2
      have e1 := sum_xor8 p0 p1
      obtain ⟨q1, hq1⟩ : ∃ q, p0 ^^^ p1 = q := ⟨_, rfl⟩
      rw [hq1] at e1 F2
      have e2 := sum_xor8 q1 g2
      obtain ⟨q2, hq2⟩ : ∃ q, q1 ^^^ g2 = q := ⟨_, rfl⟩
      rw [hq2] at e2 F2
      have e3 := sum_xor8 q2 g3
      obtain ⟨v, hv⟩ : ∃ q, q2 ^^^ g3 = q := ⟨_, rfl⟩
      rw [hv] at e3 F2
      have TM0 := Lib.hid tm0; have TM1 := Lib.hid tm1
      have HI := Lib.hid hi; have HF := Lib.hid F2
      have c4 : W7.cell? ⟨b + 1 + 1, i, none⟩ = _ := M7.cell i
      rw [bcells_get x i (by rw [F.len]; exact hin)] at c4
      clear at0 at1 at2 at3 hg0 hg1 hg2 hg3 hmix tm0 tm1 hp0 hp1 hq1 hq2 hv hi F2 F hc hand
      refine wp_region_typed 15 (fun k => match k with  | _ => []) (fun k => match k with  | _ => false) (fun k => match k with | 2 => some ⟨(Unit), (()), (fun _ => .int .u8 ((g0.toNat : Nat) : Int)), (fun _ _ => True), (fun _ _ _ h _ => h)⟩ | 3 => some ⟨(Unit), (()), (fun _ => .int .u8 ((p0.toNat : Nat) : Int)), (fun _ _ => True), (fun _ _ _ h _ => h)⟩ | 5 => some ⟨(Unit), (()), (fun _ => .int .u8 ((g1.toNat : Nat) : Int)), (fun _ _ => True), (fun _ _ _ h _ => h)⟩ | 6 => some ⟨(Unit), (()), (fun _ => .int .u8 ((p1.toNat : Nat) : Int)), (fun _ _ => True), (fun _ _ _ h _ => h)⟩ | 9 => some ⟨(Unit), (()), (fun _ => .int .u8 ((g2.toNat : Nat) : Int)), (fun _ _ => True), (fun _ _ _ h _ => h)⟩ | 12 => some ⟨(Unit), (()), (fun _ => .int .u8 ((g3.toNat : Nat) : Int)), (fun _ _ => True), (fun _ _ _ h _ => h)⟩ | _ => none) (by kernel_rfl) (by kernel_rfl) (by intro d0 v0 c0 a0 w0 h0; first | (cases d0 <;> exact h0) | exact hP _ _ _ _ _ h0) ?_
      rw [show List.range 15 = [0, 1, 2, 3, 4, 5, 6, 7, 8, 9, 10, 11, 12, 13, 14] from rfl]
      first
        | (refine ty_skip rfl rfl ?_; (try simp only [Act.put, List.setIfInBounds_toArray, List.set_cons_zero, List.set_cons_succ]))
        | (refine ty_pure rfl rfl rfl rfl ?_; apply Exists.intro; refine ⟨fun wq hq hk => ?_, ?_⟩
           · have f0 := hq.cell I7; simp only [pureAt]; go_simp; (try simp only [↓IntWalk.iteOmega]); (try go_bits); (try simp only [pureUpon]); (first | done | exact ⟨rfl, rfl⟩ | exact ⟨trivial, rfl⟩ | rfl)
           (try simp only [Act.put, List.setIfInBounds_toArray, List.set_cons_zero, List.set_cons_succ]))
      first
        | (refine ty_skip rfl rfl ?_; (try simp only [Act.put, List.setIfInBounds_toArray, List.set_cons_zero, List.set_cons_succ]))
        | (refine ty_pure rfl rfl rfl rfl ?_; apply Exists.intro; refine ⟨fun wq hq hk => ?_, ?_⟩
           · have f0 := hq.cell I7; simp only [pureAt]; go_simp; (try simp only [↓IntWalk.iteOmega]); (try go_bits); (try simp only [pureUpon]); (first | done | exact ⟨rfl, rfl⟩ | exact ⟨trivial, rfl⟩ | rfl)
           (try simp only [Act.put, List.setIfInBounds_toArray, List.set_cons_zero, List.set_cons_succ]))
      refine ty_rel rfl rfl _ rfl rfl (fun wq hq hk => ?_) ?_
      · have f0 := hq.cell I7; simp only [relAt]; go_simp; (try simp only [relUpon]); (go_at_call 85; refine (AT0.out wq hq).mono ?_; rintro e w9 ⟨rfl, hb9⟩; exact ⟨_, rfl, .mk hb9 () rfl trivial⟩)
      rintro ⟨⟩
      (try simp only [Act.put, List.setIfInBounds_toArray, List.set_cons_zero, List.set_cons_succ])
      refine ty_rel rfl rfl _ rfl rfl (fun wq hq hk => ?_) ?_
      · have f0 := hq.cell I7; simp only [relAt]; go_simp; (try simp only [relUpon]); (go_at_call 50; refine (TM0.out wq).mono ?_; rintro e w9 ⟨rfl, hb9⟩; exact ⟨_, rfl, .mk hb9 () rfl trivial⟩)
      rintro ⟨⟩
      (try simp only [Act.put, List.setIfInBounds_toArray, List.set_cons_zero, List.set_cons_succ])
      first
        | (refine ty_skip rfl rfl ?_; (try simp only [Act.put, List.setIfInBounds_toArray, List.set_cons_zero, List.set_cons_succ]))
        | (refine ty_pure rfl rfl rfl rfl ?_; apply Exists.intro; refine ⟨fun wq hq hk => ?_, ?_⟩
           · have f0 := hq.cell I7; simp only [pureAt]; go_simp; (try simp only [↓IntWalk.iteOmega]); (try go_bits); (try simp only [pureUpon]); (first | done | exact ⟨rfl, rfl⟩ | exact ⟨trivial, rfl⟩ | rfl)
           (try simp only [Act.put, List.setIfInBounds_toArray, List.set_cons_zero, List.set_cons_succ]))
      refine ty_rel rfl rfl _ rfl rfl (fun wq hq hk => ?_) ?_
      · have f0 := hq.cell I7; simp only [relAt]; go_simp; (try simp only [relUpon]); (go_at_call 85; refine (AT1.out wq hq).mono ?_; rintro e w9 ⟨rfl, hb9⟩; exact ⟨_, rfl, .mk hb9 () rfl trivial⟩)
      rintro ⟨⟩
      (try simp only [Act.put, List.setIfInBounds_toArray, List.set_cons_zero, List.set_cons_succ])
      refine ty_rel rfl rfl _ rfl rfl (fun wq hq hk => ?_) ?_
      · have f0 := hq.cell I7; simp only [relAt]; go_simp; (try simp only [relUpon]); (go_at_call 50; refine (TM1.out wq).mono ?_; rintro e w9 ⟨rfl, hb9⟩; exact ⟨_, rfl, .mk hb9 () rfl trivial⟩)
      rintro ⟨⟩
      (try simp only [Act.put, List.setIfInBounds_toArray, List.set_cons_zero, List.set_cons_succ])
      first
        | (refine ty_skip rfl rfl ?_; (try simp only [Act.put, List.setIfInBounds_toArray, List.set_cons_zero, List.set_cons_succ]))
        | (refine ty_pure rfl rfl rfl rfl ?_; apply Exists.intro; refine ⟨fun wq hq hk => ?_, ?_⟩
           · have f0 := hq.cell I7; simp only [pureAt]; go_simp; (try simp only [↓IntWalk.iteOmega]); (try go_bits); (try simp only [pureUpon]); (first | done | exact ⟨rfl, rfl⟩ | exact ⟨trivial, rfl⟩ | rfl)
           (try simp only [Act.put, List.setIfInBounds_toArray, List.set_cons_zero, List.set_cons_succ]))
      first
        | (refine ty_skip rfl rfl ?_; (try simp only [Act.put, List.setIfInBounds_toArray, List.set_cons_zero, List.set_cons_succ]))
        | (refine ty_pure rfl rfl rfl rfl ?_; apply Exists.intro; refine ⟨fun wq hq hk => ?_, ?_⟩
           · have f0 := hq.cell I7; simp only [pureAt]; go_simp; (try simp only [↓IntWalk.iteOmega]); (try go_bits); (try simp only [pureUpon]); (first | done | exact ⟨rfl, rfl⟩ | exact ⟨trivial, rfl⟩ | rfl)
           (try simp only [Act.put, List.setIfInBounds_toArray, List.set_cons_zero, List.set_cons_succ]))
      refine ty_rel rfl rfl _ rfl rfl (fun wq hq hk => ?_) ?_
      · have f0 := hq.cell I7; simp only [relAt]; go_simp; (try simp only [relUpon]); (go_at_call 85; refine (AT2.out wq hq).mono ?_; rintro e w9 ⟨rfl, hb9⟩; exact ⟨_, rfl, .mk hb9 () rfl trivial⟩)
      rintro ⟨⟩
      (try simp only [Act.put, List.setIfInBounds_toArray, List.set_cons_zero, List.set_cons_succ])
      first
        | (refine ty_skip rfl rfl ?_; (try simp only [Act.put, List.setIfInBounds_toArray, List.set_cons_zero, List.set_cons_succ]))
        | (refine ty_pure rfl rfl rfl rfl ?_; apply Exists.intro; refine ⟨fun wq hq hk => ?_, ?_⟩
           · have f0 := hq.cell I7; simp only [pureAt]; go_simp; (try simp only [↓IntWalk.iteOmega]); (try go_bits); (try simp only [pureUpon]); (first | done | exact ⟨rfl, rfl⟩ | exact ⟨trivial, rfl⟩ | rfl)
           (try simp only [Act.put, List.setIfInBounds_toArray, List.set_cons_zero, List.set_cons_succ]))
      first
        | (refine ty_skip rfl rfl ?_; (try simp only [Act.put, List.setIfInBounds_toArray, List.set_cons_zero, List.set_cons_succ]))
        | (refine ty_pure rfl rfl rfl rfl ?_; apply Exists.intro; refine ⟨fun wq hq hk => ?_, ?_⟩
           · have f0 := hq.cell I7; simp only [pureAt]; go_simp; (try simp only [↓IntWalk.iteOmega]); (try go_bits); (try simp only [pureUpon]); (first | done | exact ⟨rfl, rfl⟩ | exact ⟨trivial, rfl⟩ | rfl)
           (try simp only [Act.put, List.setIfInBounds_toArray, List.set_cons_zero, List.set_cons_succ]))
      refine ty_rel rfl rfl _ rfl rfl (fun wq hq hk => ?_) ?_
      · have f0 := hq.cell I7; simp only [relAt]; go_simp; (try simp only [relUpon]); (go_at_call 85; refine (AT3.out wq hq).mono ?_; rintro e w9 ⟨rfl, hb9⟩; exact ⟨_, rfl, .mk hb9 () rfl trivial⟩)
      rintro ⟨⟩
      (try simp only [Act.put, List.setIfInBounds_toArray, List.set_cons_zero, List.set_cons_succ])
      first
        | (refine ty_skip rfl rfl ?_; (try simp only [Act.put, List.setIfInBounds_toArray, List.set_cons_zero, List.set_cons_succ]))
        | (refine ty_pure rfl rfl rfl rfl ?_; apply Exists.intro; refine ⟨fun wq hq hk => ?_, ?_⟩
           · have f0 := hq.cell I7; simp only [pureAt]; go_simp; (try simp only [↓IntWalk.iteOmega]); (try go_bits); (try simp only [pureUpon]); (first | done | exact ⟨rfl, rfl⟩ | exact ⟨trivial, rfl⟩ | rfl)
           (try simp only [Act.put, List.setIfInBounds_toArray, List.set_cons_zero, List.set_cons_succ]))
      first
        | (refine ty_skip rfl rfl ?_; (try simp only [Act.put, List.setIfInBounds_toArray, List.set_cons_zero, List.set_cons_succ]))
        | (refine ty_pure rfl rfl rfl rfl ?_; apply Exists.intro; refine ⟨fun wq hq hk => ?_, ?_⟩
           · have f0 := hq.cell I7; simp only [pureAt]; go_simp; (try simp only [↓IntWalk.iteOmega]); (try go_bits); (try simp only [pureUpon]); (first | done | exact ⟨rfl, rfl⟩ | exact ⟨trivial, rfl⟩ | rfl)
           (try simp only [Act.put, List.setIfInBounds_toArray, List.set_cons_zero, List.set_cons_succ]))
      refine ty_nil ?_
      simp only [List.drop_succ_cons, List.drop_zero]
      intro W8 hw8 hΓ
      clear hΓ
      have c5 := hw8.cell c4
      have f5 := (M7.gr hw8).frozen i
      have HB8 := Below.thn HB7 hw8.out HBs
      have M9 := (M7.gr hw8).set (o := i) (v := .int .u8 ((v.toNat : Nat) : Int))
      rw [bcells_set] at M9
      have L9 := (L7.gr hw8).set_ne (a := ⟨b + 1 + 1, i, none⟩) (v := .int .u8 ((v.toNat : Nat) : Int)) (by show b ≠ b + 1 + 1; omega)
      have Z9 := (Z7.gr hw8).set_ne (a := ⟨b + 1 + 1, i, none⟩) (v := .int .u8 ((v.toNat : Nat) : Int)) (by show b + 1 ≠ b + 1 + 1; omega)
      have HB9 := HB8.setCell (p := ⟨b + 1 + 1, i, none⟩) (by show b ≤ b + 1 + 1; omega) (.int .u8 ((v.toNat : Nat) : Int))
      clear HB7 L7 M7 Z7 I7 C7 c4 hw8 HB8 HBs e1 e2 e3
      go_wp2_with fail
      go_roundg g
      case rel => exact ⟨i + 1, _, by have := HI.out; omega, by simp, HB9, L9, Z9, M9, HF.out⟩
      case measure => omega
end Go.Proofs.Ytkblkdojmfgneaa

namespace Go.Proofs.Ytkblkdojmfgneaa
open Go.RowKit

/-- Memory, as a block is encrypted. -/
structure EAt (w wr : World) (K : Array Value) (b : Nat) (x : List UInt8) : Prop where
  HB : Below b w wr
  K : Blk wr b K 29
  X : Blk wr (b + 1) (bcells x) 25
  Z : Blk wr (b + 1 + 1) z16 25
  hs : b + 1 + 1 < wr.heap.size
theorem EAt.below {w wr w' : World} {K : Array Value} {b : Nat} {x : List UInt8} (h : EAt w wr K b x) (hb : Below wr.heap.size wr w') : EAt w w' K b x :=
  ⟨Below.thn h.HB hb (by have := h.hs; omega), h.K.below hb, h.X.below hb, h.Z.below hb, Nat.lt_of_lt_of_le h.hs hb.size⟩
theorem EAt.put {w wr w' : World} {K : Array Value} {b : Nat} {x y : List UInt8} (h : EAt w wr K b x) (hp : Put (b + 1) wr w') (Y : Blk w' (b + 1) (bcells y) 25) : EAt w w' K b y :=
  ⟨hp.below (by omega) h.HB, hp.blk (by omega) h.K, Y, hp.blk (by omega) h.Z, by rw [hp.size]; exact h.hs⟩
theorem Blk.range {w : World} {b : Nat} {l : List Value} {t : TypeId} (h : Blk w b l.toArray t) : w.rangeAt b 0 l := fun j v hv => by
  rw [Nat.zero_add, h.cell, List.getElem?_toArray, hv]
theorem key_range (key : List UInt8) (hk : key.length = 16) (r b : Nat) (hr : r ≤ 10) (W : World) (B : Blk W b (kcells (keysN key 10)).toArray 29) : W.rangeAt b (1 + r * 16) ((keyR key r).map bval) := fun j v hv => by
  have hl := keyR_len key hk r
  have hj : j < 16 := by have := (List.getElem?_eq_some_iff.1 hv).1; rw [List.length_map] at this; omega
  rw [B.cell, Nat.add_assoc, kcells_get _ _ (by rw [keysN_len key hk]; omega), Nat.mul_comm r 16, keysN_get key hk r j hj 10 hr, ← hv, List.getElem?_map, List.getD_eq_getElem?_getD, List.getElem?_eq_getElem (by omega)]; rfl
set_option maxHeartbeats 8000000 in
set_option maxRecDepth 20000 in
theorem encrypt_any (key l : List UInt8) (hk : key.length = 16) (hl : l.length = 16) (w : World) : Calls Try.prog 23 #[.agg (kcells (keysN key 10)).toArray, .agg (bcells l)] w fun e w' => e = .returned (.agg (bcells (encL key l))) ∧ Below w.heap.size w w' := by
  have hkl := keysN_len key hk 10
  have hone := kcells_one (keysN key 10)
  have hKs : (kcells (keysN key 10)).toArray.size = 433 := by rw [List.size_toArray, kcells_len _ hkl]
  have hwh := fun W => whole_key (keysN key 10) hkl W
  have htn := fun (x : List UInt8) (hx : x.length = 16) (kb : Nat) (W : World) (B : Blk W kb (kcells (keysN key 10)).toArray 29) => turned_any (keysN key 10) x hkl hx kb W B
  have hrg := key_range key hk
  obtain ⟨K, hK⟩ : ∃ K, (kcells (keysN key 10)).toArray = K := ⟨_, rfl⟩
  rw [hK] at hone hKs hwh htn hrg ⊢
  have HWH := Lib.hid hwh; have HTN := Lib.hid htn; have HRG := Lib.hid hrg; have HKL := Lib.hid hk
  obtain ⟨E, hE⟩ : ∃ E, encL key l = E := ⟨_, rfl⟩
  rw [hE]
  have hE1 : encGo key 10 1 (addL l (keyR key 0)) = E := hE
  have HE := Lib.hid hE1
  have hls := bcells_len l hl
  have hal := addL_len l (keyR key 0) hl (keyR_len key hk 0)
  clear hK hwh htn hrg hE hE1 hkl
  go_enter Try.func23, Try.ntmps23
  go_upto_region 1 with fail
  refine wp_absQ (fun W => EAt w W K w.heap.size l) ⟨by (repeat (first | (with_reducible assumption) | (with_reducible exact Below.refl _ _) | with_reducible apply bl_drewN | with_reducible apply Below.drew | (with_reducible apply bl_alloc; focus (first | (simp; done) | (simp; omega) | omega)) | (with_reducible apply bl_set; focus (first | (simp; done) | (simp; omega) | omega)))), by (repeat (first | (with_reducible assumption) | (with_reducible apply Blk.new'; (first | (with_reducible rfl) | (simp; done))) | with_reducible apply Blk.alloc | with_reducible apply Blk.set | ((with_reducible apply Blk.set_ne); focus (first | (simp; done) | (simp; omega))) | with_reducible apply Blk.drewN | with_reducible apply Blk.drew)), by (repeat (first | (with_reducible assumption) | (with_reducible apply Blk.new'; (first | (with_reducible rfl) | (simp; done))) | with_reducible apply Blk.alloc | with_reducible apply Blk.set | ((with_reducible apply Blk.set_ne); focus (first | (simp; done) | (simp; omega))) | with_reducible apply Blk.drewN | with_reducible apply Blk.drew)), Blk.new' (by simp), by simp⟩ (fun W1 V1 => ?_)
  obtain ⟨b, hb⟩ : ∃ b, w.heap.size = b := ⟨_, rfl⟩
  have HBb := Lib.hid hb
  rw [hb] at V1 ⊢
  clear hb
  go_wp2_with (refine wpList_load_row rfl 29 _ rfl b rfl 29 _ (0, 0) _ V1.K.out Try.underlying29 rfl (by rw [hKs]; kernel_rfl) ?_)
  refine (HWH.out _).mono ?_
  rintro e W2 ⟨rfl, hb2⟩
  have V2 := V1.below hb2
  clear V1 hb2
  go_upto_region 2 with (refine wpList_put rfl 29 _ _ rfl b _ _ 29 rfl rfl V2.K (by rw [hKs]; kernel_rfl) rfl hone (fun W3 hp3 K3 => ?_))
  have V3 : EAt w W3 K b l := ⟨hp3.below (by omega) V2.HB, K3, hp3.blk (by omega) V2.X, hp3.blk (by omega) V2.Z, by rw [hp3.size]; exact V2.hs⟩
  clear V2 hp3 K3
  (try simp only [Act.put])
  have hr0 := HRG.out 0 b (by decide) W3 V3.K
  rw [Nat.zero_mul, Nat.add_zero] at hr0
  have hm0 : ((keyR key 0).map bval).length = 16 := by rw [List.length_map, keyR_len key HKL.out]
  go_wp2_with (first | (refine wpList_load_row rfl 25 _ rfl (b + 1) rfl 25 _ (0, 0) _ V3.X.out Try.underlying25 rfl (by rw [hls]; kernel_rfl) ?_) | (refine wpList_load_mid rfl 25 _ rfl b 1 rfl _ _ hr0 Try.underlying25 rfl (by rw [hm0]; kernel_rfl) ?_))
  refine (add_any l (keyR key 0) hl (keyR_len key HKL.out 0) _).mono ?_
  rintro e W4 ⟨rfl, hb4⟩
  have V4 := V3.below hb4
  clear V3 hb4 hr0 hm0
  obtain ⟨x0, hx0⟩ : ∃ x, addL l (keyR key 0) = x := ⟨_, rfl⟩
  rw [hx0] at HE hal ⊢
  have hxs := bcells_len x0 hal
  go_upto_region 3 with (refine wpList_put rfl 25 _ _ rfl (b + 1) _ _ 25 rfl rfl V4.X (by rw [hxs]; kernel_rfl) (hxs.trans hls.symm) (bcells_one x0) (fun W5 hp5 X5 => ?_))
  (try simp only [Act.put])
  have V5 := V4.put hp5 X5
  clear V4 hp5 X5 hxs hx0 hls hl
  go_wp2_with fail
  go_loopg [5] 10 (fun gk t5 wr => ∃ (r : Nat) (x : List UInt8), r + gk = 11 ∧ t5 = .int .i64 (r : Int) ∧ x.length = 16 ∧ encGo key gk r x = E ∧ EAt w wr K b x)
  case atStart => exact ⟨1, x0, rfl, rfl, hal, HE.out, V5⟩
  case round =>
    clear V5 HE hal
    obtain ⟨r, x, hrg, rfl, hxl, hgo, V⟩ := hrel
    have hxs := bcells_len x hxl
    cases gk with
    | zero =>
      obtain rfl : r = 11 := by omega
      rw [encGo] at hgo
      subst hgo
      have hone := bcells_one x
      clear hrg
      obtain ⟨R, hR⟩ : ∃ R, bcells x = R := ⟨_, rfl⟩
      have X := V.X
      rw [hR] at X hone hxs
      go_wp2_with (first | (refine wpList_load_row rfl 25 _ rfl (b + 1) rfl 25 _ (0, 0) _ X.out Try.underlying25 rfl (by rw [hxs]; kernel_rfl) ?_) | (refine wpList_put rfl 25 _ _ rfl (b + 1 + 1) _ _ 25 rfl rfl V.Z (by rw [hxs]; kernel_rfl) (hxs.trans rfl) hone (fun W9 hp9 B9 => ?_)))
      refine bodyPost_ret (v := .agg R) ?_ rfl ⟨by rw [hR], by rw [HBb.out]; exact hp9.below (by omega) V.HB⟩
      exact results_cell_row (Try.results23) _ _ (b + 1 + 1) 25 _ (0, 0) _ rfl B9.out Try.underlying25 rfl (by rw [hxs]; kernel_rfl)
    | succ g =>
      rw [encGo] at hgo
      have hr10 : (r : Int) ≤ 10 := by omega
      have hts := turnedL_len x
      have HG := Lib.hid hgo
      have HRGG := Lib.hid hrg
      have hr10n : r ≤ 10 := by omega
      clear hgo hrg
      go_wp2_with (refine wpList_load_row rfl 25 _ rfl (b + 1) rfl 25 _ (0, 0) _ V.X.out Try.underlying25 rfl (by rw [hxs]; kernel_rfl) ?_)
      refine (HTN.out x hxl b _ V.K).mono ?_
      rintro e W6 ⟨rfl, hb6⟩
      have V6 := V.below hb6
      obtain ⟨y, hy⟩ : ∃ y, turnedL x = y := ⟨_, rfl⟩
      rw [hy] at hts HG ⊢
      have hys := bcells_len y hts
      clear V hb6 hy
      go_upto_region 7 with (refine wpList_put rfl 25 _ _ rfl (b + 1) _ _ 25 rfl rfl V6.X (by rw [hys]; kernel_rfl) (hys.trans hxs.symm) (bcells_one y) (fun W7 hp7 X7 => ?_))
      (try simp only [Act.put])
      have V7 := V6.put hp7 X7
      clear V6 hp7 X7 hxs hxl
      by_cases h10 : r < 10
      · have h10i : (r : Int) < 10 := by omega
        have hg := HG.out
        rw [if_pos h10] at hg
        clear h10 HG
        go_wp2_with (refine wpList_load_row rfl 25 _ rfl (b + 1) rfl 25 _ (0, 0) _ V7.X.out Try.underlying25 rfl (by rw [hys]; kernel_rfl) ?_)
        refine (mixed_any y hts _).mono ?_
        rintro e W8 ⟨rfl, hb8⟩
        have V8 := V7.below hb8
        have hml := mixedL_len y
        obtain ⟨z, hz⟩ : ∃ z, mixedL y = z := ⟨_, rfl⟩
        rw [hz] at hml hg ⊢
        have hzs0 := bcells_len z hml
        clear V7 hb8 hz
        go_upto_region 9 with (refine wpList_put rfl 25 _ _ rfl (b + 1) _ _ 25 rfl rfl V8.X (by rw [hzs0]; kernel_rfl) (hzs0.trans hys.symm) (bcells_one z) (fun W7 hp7 X7 => ?_))
        (try simp only [Act.put])
        have V7 := V8.put hp7 X7
        clear V8 hp7 X7 hys hts
        have hzs := bcells_len z hml
        have hkrl : ((keyR key r).map bval).length = 16 := by rw [List.length_map, keyR_len key HKL.out]
        have hzl : (z.map bval).length = 16 := by rw [List.length_map, hml]
        have hal := addL_len z (keyR key r) hml (keyR_len key HKL.out r)
        have hr11 : (r : Int) < 11 := by omega
        have hbs := V7.HB.size
        have hkn : (keyR key r).map bval = (keyR key r).map bval := rfl
        go_wp2_with fail
        refine wp_region_typed 6 (fun k => match k with  | _ => []) (fun k => match k with  | _ => false) (fun k => match k with | 0 => some ⟨(Unit), (()), (fun _ => .agg (bcells z)), (fun _ _ => True), (fun _ _ _ h _ => h)⟩ | 4 => some ⟨(Unit), (()), (fun _ => .agg (bcells (keyR key r))), (fun _ _ => True), (fun _ _ _ h _ => h)⟩ | 5 => some ⟨(Unit), (()), (fun _ => .agg (bcells (addL z (keyR key r)))), (fun _ _ => True), (fun _ _ _ h _ => h)⟩ | _ => none) (by kernel_rfl) (by kernel_rfl) (by intro d0 v0 c0 a0 w0 h0; first | (cases d0 <;> exact h0) | exact hP _ _ _ _ _ h0) ?_
        rw [show List.range 6 = [0, 1, 2, 3, 4, 5] from rfl]
        refine ty_rel rfl rfl _ rfl rfl (fun wq hq hk => ?_) ?_
        · exact rel_load_mid _ _ rfl (b + 1) 0 rfl (z.map bval) _ (Blk.range (V7.X.gr hq)) Try.underlying25 rfl (by rw [hzl]; kernel_rfl) (.mk (Below.refl _ _) () rfl trivial)
        rintro ⟨⟩
        (try simp only [Act.put, List.setIfInBounds_toArray, List.set_cons_zero, List.set_cons_succ])
        first
          | (refine ty_skip rfl rfl ?_; (try simp only [Act.put, List.setIfInBounds_toArray, List.set_cons_zero, List.set_cons_succ]))
          | (refine ty_pure rfl rfl rfl rfl ?_; apply Exists.intro; refine ⟨fun wq hq hk => ?_, ?_⟩
             · simp only [pureAt]; go_simp; (try simp only [↓IntWalk.iteOmega]); (try go_bits); (try simp only [pureUpon]); (first | done | exact ⟨rfl, rfl⟩ | exact ⟨trivial, rfl⟩ | rfl)
             (try simp only [Act.put, List.setIfInBounds_toArray, List.set_cons_zero, List.set_cons_succ]))
        first
          | (refine ty_skip rfl rfl ?_; (try simp only [Act.put, List.setIfInBounds_toArray, List.set_cons_zero, List.set_cons_succ]))
          | (refine ty_pure rfl rfl rfl rfl ?_; apply Exists.intro; refine ⟨fun wq hq hk => ?_, ?_⟩
             · simp only [pureAt]; go_simp; (try simp only [↓IntWalk.iteOmega]); (try go_bits); (try simp only [pureUpon]); (first | done | exact ⟨rfl, rfl⟩ | exact ⟨trivial, rfl⟩ | rfl)
             (try simp only [Act.put, List.setIfInBounds_toArray, List.set_cons_zero, List.set_cons_succ]))
        first
          | (refine ty_skip rfl rfl ?_; (try simp only [Act.put, List.setIfInBounds_toArray, List.set_cons_zero, List.set_cons_succ]))
          | (refine ty_pure rfl rfl rfl rfl ?_; apply Exists.intro; refine ⟨fun wq hq hk => ?_, ?_⟩
             · simp only [pureAt]; go_simp; (try simp only [↓IntWalk.iteOmega]); (try go_bits); (try simp only [pureUpon]); (first | done | exact ⟨rfl, rfl⟩ | exact ⟨trivial, rfl⟩ | rfl)
             (try simp only [Act.put, List.setIfInBounds_toArray, List.set_cons_zero, List.set_cons_succ]))
        refine ty_rel rfl rfl _ rfl rfl (fun wq hq hk => ?_) ?_
        · exact rel_load_mid _ _ rfl b (1 + r * 16) rfl ((keyR key r).map bval) _ (HRG.out r b hr10n _ (V7.K.gr hq)) Try.underlying25 rfl (by rw [hkrl]; kernel_rfl) (.mk (Below.refl _ _) () rfl trivial)
        rintro ⟨⟩
        (try simp only [Act.put, List.setIfInBounds_toArray, List.set_cons_zero, List.set_cons_succ])
        refine ty_rel rfl rfl _ rfl rfl (fun wq hq hk => ?_) ?_
        · simp only [relAt]; go_simp; (try simp only [relUpon]); (go_at_call 60; refine (add_any z (keyR key r) hml (keyR_len key HKL.out r) _).mono ?_; rintro e w9 ⟨rfl, hb9⟩; exact ⟨_, rfl, .mk hb9 () rfl trivial⟩)
        rintro ⟨⟩
        (try simp only [Act.put, List.setIfInBounds_toArray, List.set_cons_zero, List.set_cons_succ])
        refine ty_nil ?_
        simp only [List.drop_succ_cons, List.drop_zero]
        intro W9 hw9 hΓ
        clear hΓ
        have V9 := V7.below hw9.out
        obtain ⟨u, hu⟩ : ∃ u, addL z (keyR key r) = u := ⟨_, rfl⟩
        rw [hu] at hal hg ⊢
        have hus := bcells_len u hal
        have HGG := Lib.hid hg
        clear V7 hw9 hu
        go_wp2_with (refine wpList_put rfl 25 _ _ rfl (b + 1) _ _ 25 rfl rfl V9.X (by rw [hus]; kernel_rfl) (hus.trans hzs.symm) (bcells_one u) (fun W10 hp10 X10 => ?_))
        have V10 := V9.put hp10 X10
        clear V9 hp10 X10
        go_roundg g
        case rel => exact ⟨r + 1, u, by have := HRGG.out; omega, by simp, hal, HGG.out, V10⟩
        case measure => omega
      · have h10i : ¬ (r : Int) < 10 := by omega
        have hg := HG.out
        rw [if_neg h10] at hg
        clear h10 HG
        have hzs := bcells_len y hts
        have hkrl : ((keyR key r).map bval).length = 16 := by rw [List.length_map, keyR_len key HKL.out]
        have hzl : (y.map bval).length = 16 := by rw [List.length_map, hts]
        have hal := addL_len y (keyR key r) hts (keyR_len key HKL.out r)
        have hr11 : (r : Int) < 11 := by omega
        have hbs := V7.HB.size
        have hkn : (keyR key r).map bval = (keyR key r).map bval := rfl
        go_wp2_with fail
        refine wp_region_typed 6 (fun k => match k with  | _ => []) (fun k => match k with  | _ => false) (fun k => match k with | 0 => some ⟨(Unit), (()), (fun _ => .agg (bcells y)), (fun _ _ => True), (fun _ _ _ h _ => h)⟩ | 4 => some ⟨(Unit), (()), (fun _ => .agg (bcells (keyR key r))), (fun _ _ => True), (fun _ _ _ h _ => h)⟩ | 5 => some ⟨(Unit), (()), (fun _ => .agg (bcells (addL y (keyR key r)))), (fun _ _ => True), (fun _ _ _ h _ => h)⟩ | _ => none) (by kernel_rfl) (by kernel_rfl) (by intro d0 v0 c0 a0 w0 h0; first | (cases d0 <;> exact h0) | exact hP _ _ _ _ _ h0) ?_
        rw [show List.range 6 = [0, 1, 2, 3, 4, 5] from rfl]
        refine ty_rel rfl rfl _ rfl rfl (fun wq hq hk => ?_) ?_
        · exact rel_load_mid _ _ rfl (b + 1) 0 rfl (y.map bval) _ (Blk.range (V7.X.gr hq)) Try.underlying25 rfl (by rw [hzl]; kernel_rfl) (.mk (Below.refl _ _) () rfl trivial)
        rintro ⟨⟩
        (try simp only [Act.put, List.setIfInBounds_toArray, List.set_cons_zero, List.set_cons_succ])
        first
          | (refine ty_skip rfl rfl ?_; (try simp only [Act.put, List.setIfInBounds_toArray, List.set_cons_zero, List.set_cons_succ]))
          | (refine ty_pure rfl rfl rfl rfl ?_; apply Exists.intro; refine ⟨fun wq hq hk => ?_, ?_⟩
             · simp only [pureAt]; go_simp; (try simp only [↓IntWalk.iteOmega]); (try go_bits); (try simp only [pureUpon]); (first | done | exact ⟨rfl, rfl⟩ | exact ⟨trivial, rfl⟩ | rfl)
             (try simp only [Act.put, List.setIfInBounds_toArray, List.set_cons_zero, List.set_cons_succ]))
        first
          | (refine ty_skip rfl rfl ?_; (try simp only [Act.put, List.setIfInBounds_toArray, List.set_cons_zero, List.set_cons_succ]))
          | (refine ty_pure rfl rfl rfl rfl ?_; apply Exists.intro; refine ⟨fun wq hq hk => ?_, ?_⟩
             · simp only [pureAt]; go_simp; (try simp only [↓IntWalk.iteOmega]); (try go_bits); (try simp only [pureUpon]); (first | done | exact ⟨rfl, rfl⟩ | exact ⟨trivial, rfl⟩ | rfl)
             (try simp only [Act.put, List.setIfInBounds_toArray, List.set_cons_zero, List.set_cons_succ]))
        first
          | (refine ty_skip rfl rfl ?_; (try simp only [Act.put, List.setIfInBounds_toArray, List.set_cons_zero, List.set_cons_succ]))
          | (refine ty_pure rfl rfl rfl rfl ?_; apply Exists.intro; refine ⟨fun wq hq hk => ?_, ?_⟩
             · simp only [pureAt]; go_simp; (try simp only [↓IntWalk.iteOmega]); (try go_bits); (try simp only [pureUpon]); (first | done | exact ⟨rfl, rfl⟩ | exact ⟨trivial, rfl⟩ | rfl)
             (try simp only [Act.put, List.setIfInBounds_toArray, List.set_cons_zero, List.set_cons_succ]))
        refine ty_rel rfl rfl _ rfl rfl (fun wq hq hk => ?_) ?_
        · exact rel_load_mid _ _ rfl b (1 + r * 16) rfl ((keyR key r).map bval) _ (HRG.out r b hr10n _ (V7.K.gr hq)) Try.underlying25 rfl (by rw [hkrl]; kernel_rfl) (.mk (Below.refl _ _) () rfl trivial)
        rintro ⟨⟩
        (try simp only [Act.put, List.setIfInBounds_toArray, List.set_cons_zero, List.set_cons_succ])
        refine ty_rel rfl rfl _ rfl rfl (fun wq hq hk => ?_) ?_
        · simp only [relAt]; go_simp; (try simp only [relUpon]); (go_at_call 60; refine (add_any y (keyR key r) hts (keyR_len key HKL.out r) _).mono ?_; rintro e w9 ⟨rfl, hb9⟩; exact ⟨_, rfl, .mk hb9 () rfl trivial⟩)
        rintro ⟨⟩
        (try simp only [Act.put, List.setIfInBounds_toArray, List.set_cons_zero, List.set_cons_succ])
        refine ty_nil ?_
        simp only [List.drop_succ_cons, List.drop_zero]
        intro W9 hw9 hΓ
        clear hΓ
        have V9 := V7.below hw9.out
        obtain ⟨u, hu⟩ : ∃ u, addL y (keyR key r) = u := ⟨_, rfl⟩
        rw [hu] at hal hg ⊢
        have hus := bcells_len u hal
        have HGG := Lib.hid hg
        clear V7 hw9 hu
        go_wp2_with (refine wpList_put rfl 25 _ _ rfl (b + 1) _ _ 25 rfl rfl V9.X (by rw [hus]; kernel_rfl) (hus.trans hzs.symm) (bcells_one u) (fun W10 hp10 X10 => ?_))
        have V10 := V9.put hp10 X10
        clear V9 hp10 X10
        go_roundg g
        case rel => exact ⟨r + 1, u, by have := HRGG.out; omega, by simp, hal, HGG.out, V10⟩
        case measure => omega
end Go.Proofs.Ytkblkdojmfgneaa

namespace Go.Proofs.Ytkblkdojmfgneaa
open Go.RowKit

theorem zkey_one : Try.zeroCells29.all (·.oneCell') = true := by kernel_rfl
theorem zkey_size : Try.zeroCells29.size = 433 := by kernel_rfl
set_option maxHeartbeats 4000000 in
set_option maxRecDepth 20000 in
theorem new_bad (key : ByteArray) (w : World) (hk : key.size ≠ 16) : Calls Try.prog 15 #[.string key] w fun e w' => e = .returned (.tuple #[.agg Try.zeroCells29, .int .i64 4]) ∧ Below w.heap.size w w' := by
  have hki : ¬ (key.size : Int) = 16 := by omega
  go_enter Try.func15, Try.ntmps15
  go_upto_region 2 with fail
  have Z : Blk (w.alloc (Obj.cells Try.zeroCells29 29)) w.heap.size Try.zeroCells29 29 := Blk.new _ _ _
  have HB : Below w.heap.size w (w.alloc (Obj.cells Try.zeroCells29 29)) := by (repeat (first | (with_reducible assumption) | (with_reducible exact Below.refl _ _) | with_reducible apply bl_drewN | with_reducible apply Below.drew | (with_reducible apply bl_alloc; focus (first | (simp; done) | (simp; omega) | omega)) | (with_reducible apply bl_set; focus (first | (simp; done) | (simp; omega) | omega))))
  refine wp_absQ (fun W => Below w.heap.size w W ∧ Blk W w.heap.size Try.zeroCells29 29) ⟨HB, Z⟩ (fun W1 V1 => ?_)
  clear HB Z
  obtain ⟨HB, Z⟩ := V1
  go_wp2_with (refine wpList_put rfl 29 _ _ rfl w.heap.size _ Try.zeroCells29 29 rfl rfl Z (by rw [zkey_size]; kernel_rfl) rfl zkey_one (fun W9 hp9 B9 => ?_))
  refine bodyPost_ret (v := .tuple #[.agg Try.zeroCells29, .int .i64 4]) ?_ rfl ⟨rfl, hp9.below (Nat.le_refl _) HB⟩
  exact results_cell_tmp (Try.results15) _ _ w.heap.size 29 _ (0, 0) _ _ rfl rfl B9.out Try.underlying29 rfl (by rw [zkey_size]; kernel_rfl)
end Go.Proofs.Ytkblkdojmfgneaa

namespace Go.Proofs.Ytkblkdojmfgneaa
open Go.RowKit

def seventeens : List UInt8 := [0, 17, 34, 51, 68, 85, 102, 119, 136, 153, 170, 187, 204, 221, 238, 255]
theorem seventeens_get (i : Nat) (h : i < 16) : (seventeens.getD i 0).toNat = 17 * i := by
  have : i = 0 ∨ i = 1 ∨ i = 2 ∨ i = 3 ∨ i = 4 ∨ i = 5 ∨ i = 6 ∨ i = 7 ∨ i = 8 ∨ i = 9 ∨ i = 10 ∨ i = 11 ∨ i = 12 ∨ i = 13 ∨ i = 14 ∨ i = 15 := by omega
  rcases this with rfl | rfl | rfl | rfl | rfl | rfl | rfl | rfl | rfl | rfl | rfl | rfl | rfl | rfl | rfl | rfl <;> rfl
theorem keysN_size (key : List UInt8) (hk : key.length = 16) : (kcells (keysN key 10)).toArray.size = 433 := by rw [List.size_toArray, kcells_len _ (keysN_len key hk 10)]
set_option maxHeartbeats 8000000 in
set_option maxRecDepth 20000 in
theorem awake05_any (w : World) : Calls Try.prog 80 #[] w fun e w' => e = .returned (.bool true) ∧ Below w.heap.size w w' := by
  obtain ⟨key, hkey⟩ : ∃ key : List UInt8, key = [0, 1, 2, 3, 4, 5, 6, 7, 8, 9, 10, 11, 12, 13, 14, 15] := ⟨_, rfl⟩
  have hkl : key.length = 16 := by rw [hkey]; rfl
  have hnew : ∀ W, Calls Try.prog 15 #[.string ⟨#[0, 1, 2, 3, 4, 5, 6, 7, 8, 9, 10, 11, 12, 13, 14, 15]⟩] W fun e w' => e = .returned (.tuple #[.agg (kcells (keysN key 10)).toArray, .int .i64 0]) ∧ Below W.heap.size W w' := by
    intro W
    rw [hkey]
    exact new_any ⟨#[0, 1, 2, 3, 4, 5, 6, 7, 8, 9, 10, 11, 12, 13, 14, 15]⟩ W rfl
  have henc := fun W => encrypt_any key seventeens hkl rfl W
  have hfips : encL key seventeens = [105, 196, 224, 216, 106, 123, 4, 48, 216, 205, 183, 128, 112, 180, 197, 90] := by rw [hkey]; exact fips
  rw [hfips] at henc
  have hone := kcells_one (keysN key 10)
  have hKs := keysN_size key hkl
  obtain ⟨K, hK⟩ : ∃ K, (kcells (keysN key 10)).toArray = K := ⟨_, rfl⟩
  rw [hK] at hnew henc hone hKs
  have HN := Lib.hid hnew; have HE := Lib.hid henc
  clear hnew henc hfips hkey hkl hK
  go_enter Try.func80, Try.ntmps80
  go_wp2_with fail
  refine (HN.out _).mono ?_
  rintro e W1 ⟨rfl, hb⟩
  have HB1 := Below.thn (Below.refl w.heap.size w) hb (Nat.le_refl _)
  have HBs := HB1.size
  clear hb
  go_upto_region 2 with (refine wpList_put rfl 29 _ _ rfl W1.heap.size _ _ 29 rfl rfl (Blk.new _ _ _) (by rw [hKs]; kernel_rfl) (hKs.trans zkey_size.symm) hone (fun W2 hp2 K2 => ?_))
  (try simp only [Act.put])
  obtain ⟨b, hb⟩ : ∃ b, W1.heap.size = b := ⟨_, rfl⟩
  have HB2 : Below w.heap.size w W2 := hp2.below (by omega) (by (repeat (first | (with_reducible assumption) | (with_reducible exact Below.refl _ _) | with_reducible apply bl_drewN | with_reducible apply Below.drew | (with_reducible apply bl_alloc; focus (first | (simp; done) | (simp; omega) | omega)) | (with_reducible apply bl_set; focus (first | (simp; done) | (simp; omega) | omega)))))
  have HB2s : b < W2.heap.size := by rw [hp2.size]; simp; omega
  rw [hb] at K2 HBs ⊢
  clear hp2 hb HB1
  go_wp2_with fail
  refine wp_absQ (fun W => Below w.heap.size w W ∧ Blk W b K 29 ∧ Blk W W2.heap.size (bcells (List.replicate 16 0)) 25) ⟨by (repeat (first | (with_reducible assumption) | (with_reducible exact Below.refl _ _) | with_reducible apply bl_drewN | with_reducible apply Below.drew | (with_reducible apply bl_alloc; focus (first | (simp; done) | (simp; omega) | omega)) | (with_reducible apply bl_set; focus (first | (simp; done) | (simp; omega) | omega)))), Blk.alloc K2, Blk.new' rfl⟩ (fun W3 V3 => ?_)
  obtain ⟨c, hc⟩ : ∃ c, W2.heap.size = c := ⟨_, rfl⟩
  rw [hc] at V3 HB2s ⊢
  clear K2 HB2 hc
  obtain ⟨HB3, K3, C3⟩ := V3
  go_loopg [10] 16 (fun gk t10 wr => ∃ (i : Nat) (x : List UInt8), i + gk = 16 ∧ t10 = .int .i64 (i : Int) ∧ Below w.heap.size w wr ∧ Blk wr b K 29 ∧ Blk wr c (bcells x) 25 ∧ Fill seventeens (List.replicate 16 0) x 16 i)
  case atStart => exact ⟨0, _, rfl, rfl, HB3, K3, C3, .start (by simp)⟩
  case round =>
    clear HB3 K3 C3
    obtain ⟨i, x, hi, rfl, HB, KB, C, F⟩ := hrel
    cases gk with
    | zero =>
      obtain rfl : i = 16 := by omega
      clear hi
      rw [F.all rfl] at C
      have hbl := C.lt
      clear F
      go_wp2_with (first | (refine wpList_load_row rfl 29 _ rfl b rfl 29 _ (0, 0) _ KB.out Try.underlying29 rfl (by rw [hKs]; kernel_rfl) ?_) | (refine wpList_load_row rfl 25 _ rfl c rfl 25 _ (0, 0) _ C.out Try.underlying25 rfl (by kernel_rfl) ?_))
      refine (HE.out _).mono ?_
      rintro e W5 ⟨rfl, hb5⟩
      have HB5 := Below.thn HB hb5 HB.size
      clear hb5
      go_upto_region 9 with (refine wpList_put rfl 25 _ _ rfl W5.heap.size _ _ 25 rfl rfl (Blk.new _ _ _) (by kernel_rfl) rfl (bcells_one _) (fun W6 hp6 B6 => ?_))
      (try simp only [Act.put])
      have HBs5 := HB5.size
      have HB6 : Below w.heap.size w W6 := hp6.below (by omega) (by (repeat (first | (with_reducible assumption) | (with_reducible exact Below.refl _ _) | with_reducible apply bl_drewN | with_reducible apply Below.drew | (with_reducible apply bl_alloc; focus (first | (simp; done) | (simp; omega) | omega)) | (with_reducible apply bl_set; focus (first | (simp; done) | (simp; omega) | omega)))))
      have c0 : W6.cell? ⟨W5.heap.size, 0, none⟩ = some (.int .u8 105) := B6.cell 0
      have c1 : W6.cell? ⟨W5.heap.size, 1, none⟩ = some (.int .u8 196) := B6.cell 1
      have c2 : W6.cell? ⟨W5.heap.size, 15, none⟩ = some (.int .u8 90) := B6.cell 15
      go_wp2_with fail
      go_ret
      exact ⟨rfl, HB6⟩
    | succ g =>
      have hi16 : (i : Int) < 16 := by omega
      have hin : i < 16 := by omega
      have F2 := F.step hin
      have h17 := seventeens_get i hin
      obtain ⟨v, hv⟩ : ∃ v, seventeens.getD i 0 = v := ⟨_, rfl⟩
      rw [hv] at h17 F2
      have e1 : (17 : Int) * (i : Int) = ((v.toNat : Nat) : Int) := by omega
      have e2 : ((v.toNat : Nat) : Int) % 256 = ((v.toNat : Nat) : Int) := by have := v.toNat_lt; omega
      have c4 : wr.cell? ⟨c, i, none⟩ = _ := C.cell i
      rw [bcells_get x i (by rw [F.len]; exact hin)] at c4
      have f4 := C.frozen i
      have C9 := C.set (o := i) (v := .int .u8 ((v.toNat : Nat) : Int))
      rw [bcells_set] at C9
      have K9 := KB.set_ne (a := ⟨c, i, none⟩) (v := .int .u8 ((v.toNat : Nat) : Int)) (by show b ≠ c; omega)
      have HB9 := HB.setCell (p := ⟨c, i, none⟩) (by show w.heap.size ≤ c; omega) (.int .u8 ((v.toNat : Nat) : Int))
      have HF := Lib.hid F2; have HI := Lib.hid hi
      clear HB KB C F F2 hv h17 hi
      go_wp2_with fail
      go_roundg g
      case rel => exact ⟨i + 1, _, by have := HI.out; omega, by simp, HB9, K9, C9, HF.out⟩
      case measure => omega
set_option maxHeartbeats 4000000 in
theorem awake05x_any (w : World) : Calls Try.prog 48 #[] w fun e w' => e = .returned (.bool true) ∧ Below w.heap.size w w' := by
  go_enter Try.func48, Try.ntmps48
  go_wp2_with fail
  refine (awake05_any _).mono ?_
  rintro e W1 ⟨rfl, hb⟩
  go_wp2_with fail
  go_ret
  exact ⟨rfl, hb⟩
end Go.Proofs.Ytkblkdojmfgneaa
