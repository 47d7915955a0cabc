/- Package sha: step. -/
import Derived.Test.YtkblkdojmfgneaaShaA
import Derived.Test.YtkblkdojmfgneaaTyp2
namespace Go.Proofs.Ytkblkdojmfgneaa
open Go.RowKit

theorem xor32 (a b : Nat) (ha : a < 4294967296) (hb : b < 4294967296) : a ^^^ b < 4294967296 := Nat.xor_lt_two_pow (n := 32) ha hb
theorem and32 (a b : Nat) (ha : a < 4294967296) : a &&& b < 4294967296 := Nat.lt_of_le_of_lt Nat.and_le_left ha
theorem or32 (a b : Nat) (ha : a < 4294967296) (hb : b < 4294967296) : a ||| b < 4294967296 := Nat.or_lt_two_pow (n := 32) ha hb
theorem add32_lt (a b : Nat) : add32 a b < 4294967296 := Nat.mod_lt _ (by decide)
theorem add32_int (a b : Nat) : ((a : Int) + (b : Int)) % 4294967296 = ((add32 a b : Nat) : Int) := by simp [add32]
theorem shr32_lt (a n : Nat) (ha : a < 4294967296) : a >>> n < 4294967296 := by
  rw [Nat.shiftRight_eq_div_pow]; exact Nat.lt_of_le_of_lt (Nat.div_le_self _ _) ha
/-- The words that there are, in a row of so many. -/
def cellsW (W : List Nat) (n : Nat) : Array Value := (nums .u32 W ++ List.replicate (n - W.length) (Value.int .u32 0)).toArray
theorem cellsW_get (W : List Nat) (n j : Nat) (h : j < W.length) : (cellsW W n)[j]? = some (.int .u32 (W.getD j 0 : Nat)) := by
  unfold cellsW
  rw [List.getElem?_toArray, List.getElem?_append_left (by rw [nums_length]; exact h), nums_get _ _ _ h]
theorem cellsW_next (W : List Nat) (n : Nat) (h : W.length < n) : (cellsW W n)[W.length]? = some (.int .u32 0) := by
  unfold cellsW
  rw [List.getElem?_toArray, List.getElem?_append_right (by rw [nums_length]; omega), nums_length, Nat.sub_self, List.getElem?_replicate, if_pos (by omega)]
theorem cellsW_set (W : List Nat) (n x : Nat) (h : W.length < n) : (cellsW W n).setIfInBounds W.length (.int .u32 x) = cellsW (W ++ [x]) n := by
  unfold cellsW
  rw [List.setIfInBounds_toArray]
  congr 1
  rw [List.set_append_right _ _ (by rw [nums_length]; omega), nums_length, Nat.sub_self]
  obtain ⟨m, hm⟩ : ∃ m, n - W.length = m + 1 := ⟨n - W.length - 1, by omega⟩
  rw [hm, List.replicate_succ, List.set_cons_zero, List.length_append, List.length_singleton, show n - (W.length + 1) = m by omega]
  rw [← nums_snoc, List.append_assoc]; rfl
theorem be32_get (s : ByteArray) (i : Nat) (h : 4 * i + 4 ≤ s.size) : getJ (s.extract (4 * i) (4 * i + 4)) 4 = be32 s.data.toList i := by
  have hl : s.data.toList.length = s.size := rfl
  unfold getJ be32
  rw [ba_extract, show 4 * i + 4 - 4 * i = 4 by omega, List.take_take, Nat.min_self]
  have h0 : 4 * i < s.data.toList.length := by omega
  have h1 : 4 * i + 1 < s.data.toList.length := by omega
  have h2 : 4 * i + 2 < s.data.toList.length := by omega
  have h3 : 4 * i + 3 < s.data.toList.length := by omega
  rw [List.drop_eq_getElem_cons h0, List.drop_eq_getElem_cons h1, List.drop_eq_getElem_cons h2, List.drop_eq_getElem_cons h3]
  simp only [List.take_succ_cons, List.take_zero, List.foldl_cons, List.foldl_nil]
  rw [List.getD_eq_getElem?_getD, List.getD_eq_getElem?_getD, List.getD_eq_getElem?_getD, List.getD_eq_getElem?_getD, List.getElem?_eq_getElem h0, List.getElem?_eq_getElem h1, List.getElem?_eq_getElem h2, List.getElem?_eq_getElem h3]
  simp only [Option.getD_some]
  omega
theorem be32_lt (s : List UInt8) (i : Nat) : be32 s i < 4294967296 := by
  unfold be32
  have h0 := (s.getD (4 * i) 0).toNat_lt; have h1 := (s.getD (4 * i + 1) 0).toNat_lt; have h2 := (s.getD (4 * i + 2) 0).toNat_lt; have h3 := (s.getD (4 * i + 3) 0).toNat_lt
  omega
theorem nextW_lt (s : List UInt8) (W : List Nat) (i : Nat) : nextW s W i < 4294967296 := by
  unfold nextW
  split
  · exact be32_lt s i
  · exact add32_lt _ _
theorem getD_snoc_lt (W : List Nat) (x j : Nat) (h : ∀ j, W.getD j 0 < 4294967296) (hx : x < 4294967296) : (W ++ [x]).getD j 0 < 4294967296 := by
  rw [List.getD_eq_getElem?_getD]
  by_cases hj : j < W.length
  · rw [List.getElem?_append_left hj, ← List.getD_eq_getElem?_getD]; exact h j
  · rw [List.getElem?_append_right (by omega)]
    obtain ⟨k, hk⟩ : ∃ k, j - W.length = k := ⟨_, rfl⟩
    rw [hk]
    cases k with
    | zero => exact hx
    | succ k => simp
abbrev z35 : Array Value := #[.int .u32 0, .int .u32 0, .int .u32 0, .int .u32 0, .int .u32 0, .int .u32 0, .int .u32 0, .int .u32 0]
abbrev c35 (a b c d e f g o : Nat) : Array Value := #[.int .u32 a, .int .u32 b, .int .u32 c, .int .u32 d, .int .u32 e, .int .u32 f, .int .u32 g, .int .u32 o]
structure SLt (v : St) : Prop where
  a : v.a < 4294967296
  b : v.b < 4294967296
  c : v.c < 4294967296
  d : v.d < 4294967296
  e : v.e < 4294967296
  f : v.f < 4294967296
  g : v.g < 4294967296
  o : v.o < 4294967296
/-- The loop's state. -/
structure HAt (w wr : World) (h0 h1 h2 h3 h4 h5 h6 h7 : Nat) (W : List Nat) (kb : Nat) : Prop where
  HB : Below w.heap.size w wr
  B0 : Blk wr w.heap.size (c35 h0 h1 h2 h3 h4 h5 h6 h7) 152
  B1 : Blk wr (w.heap.size + 1) z35 152
  B2 : Blk wr (w.heap.size + 2) (cellsW W 64) 154
  kb : kb < w.heap.size
theorem HAt.below {w wr w' : World} {h0 h1 h2 h3 h4 h5 h6 h7 : Nat} {W : List Nat} {kb : Nat} (h : HAt w wr h0 h1 h2 h3 h4 h5 h6 h7 W kb) (hb : Below wr.heap.size wr w') : HAt w w' h0 h1 h2 h3 h4 h5 h6 h7 W kb :=
  ⟨Below.thn h.HB hb h.HB.size, h.B0.below hb, h.B1.below hb, h.B2.below hb, h.kb⟩
theorem HAt.set {w wr : World} {h0 h1 h2 h3 h4 h5 h6 h7 : Nat} {W : List Nat} {kb : Nat} (h : HAt w wr h0 h1 h2 h3 h4 h5 h6 h7 W kb) (i x : Nat) (hi : W.length = i) (hn : i < 64) : HAt w (wr.setCell ⟨w.heap.size + 2, i, none⟩ (.int .u32 x)) h0 h1 h2 h3 h4 h5 h6 h7 (W ++ [x]) kb := by
  subst hi
  exact ⟨h.HB.setCell (p := ⟨w.heap.size + 2, _, none⟩) (by show w.heap.size ≤ w.heap.size + 2; omega) _, h.B0.set_ne (by simp), h.B1.set_ne (by simp), (h.B2.set).conv (cellsW_set W 64 x hn), h.kb⟩

set_option maxHeartbeats 16000000 in
set_option maxRecDepth 20000 in
theorem step_any (h0 h1 h2 h3 h4 h5 h6 h7 kb : Nat) (s : ByteArray) (w : World) (hs : s.size = 64) (hv : SLt ⟨h0, h1, h2, h3, h4, h5, h6, h7⟩) (hkb : kb < w.heap.size)
    (hk : ∀ i, i < 64 → w.cell? ⟨kb, i, none⟩ = some (.int .u32 (constK.getD i 0 : Nat))) :
    Calls Try.prog 109 #[.agg (c35 h0 h1 h2 h3 h4 h5 h6 h7), .pointer (some ⟨kb, 0, none⟩), .string s] w fun e w' => e = .returned (.agg (nums .u32 (stepL [h0, h1, h2, h3, h4, h5, h6, h7] s.data.toList)).toArray) ∧ Below w.heap.size w w' := by
  obtain ⟨VF, hVF⟩ : ∃ v, roundsGo s.data.toList 64 0 [] ⟨h0, h1, h2, h3, h4, h5, h6, h7⟩ = v := ⟨_, rfl⟩
  have hst : stepL [h0, h1, h2, h3, h4, h5, h6, h7] s.data.toList = [add32 h0 VF.a, add32 h1 VF.b, add32 h2 VF.c, add32 h3 VF.d, add32 h4 VF.e, add32 h5 VF.f, add32 h6 VF.g, add32 h7 VF.o] := by
    rw [← hVF]; rfl
  rw [hst]
  have HK := Lib.hid hk
  have HVF := Lib.hid hVF
  have HSZ := Lib.hid hs
  have HV := Lib.hid hv
  clear hst hk hVF hv
  go_enter Try.func109, Try.ntmps109
  go_upto_region 2 with fail
  refine wp_absQ (fun W => HAt w W h0 h1 h2 h3 h4 h5 h6 h7 [] kb) ⟨by (repeat (first | (with_reducible assumption) | (with_reducible exact Below.refl _ _) | with_reducible apply bl_drewN | with_reducible apply Below.drew | (with_reducible apply bl_alloc; focus (first | (simp; done) | (simp; omega) | omega)) | (with_reducible apply bl_set; focus (first | (simp; done) | (simp; omega) | omega)))), by (repeat (first | (with_reducible assumption) | (with_reducible apply Blk.new'; (first | (with_reducible rfl) | (simp; done))) | with_reducible apply Blk.alloc | with_reducible apply Blk.set | ((with_reducible apply Blk.set_ne); focus (first | (simp; done) | (simp; omega))) | with_reducible apply Blk.drewN | with_reducible apply Blk.drew)), by (repeat (first | (with_reducible assumption) | (with_reducible apply Blk.new'; (first | (with_reducible rfl) | (simp; done))) | with_reducible apply Blk.alloc | with_reducible apply Blk.set | ((with_reducible apply Blk.set_ne); focus (first | (simp; done) | (simp; omega))) | with_reducible apply Blk.drewN | with_reducible apply Blk.drew)), Blk.conv (by (repeat (first | (with_reducible assumption) | (with_reducible apply Blk.new'; (first | (with_reducible rfl) | (simp; done))) | with_reducible apply Blk.alloc | with_reducible apply Blk.set | ((with_reducible apply Blk.set_ne); focus (first | (simp; done) | (simp; omega))) | with_reducible apply Blk.drewN | with_reducible apply Blk.drew))) ?_, hkb⟩ (fun W1 V1 => ?_)
  · rfl
  have Q0 := V1.B0
  refine wp_region_gr (by kernel_rfl) (by kernel_rfl) ?_
  repeat (first
    | go_big_quiet_skip
    | ((refine BigFrame.wpQuiet_want rfl (fun K hK => quiet_mk ?_)); apply Exists.intro; refine ⟨fun wq hq => ?_, hK _ ?_⟩
       · have f0 := hq.blk Q0; go_simp; (try simp only [↓IntWalk.iteOmega]); (try go_bits)
         first | done | rfl | exact ⟨rfl, rfl⟩ | exact ⟨trivial, rfl⟩
       clear hK K; (try simp only [Act.put, List.setIfInBounds_toArray, List.set_cons_zero, List.set_cons_succ])))
  refine wpQuiet_nil ?_
  intro W2 hw2
  have V2 := V1.below hw2.out
  clear V1 hw2 Q0
  go_wp2_with fail
  go_loopg [8, 9, 10, 11, 12, 13, 14, 15, 39] 64 (fun gk t8 t9 t10 t11 t12 t13 t14 t15 t39 wr => ∃ (i a b c d e f g o : Nat) (W : List Nat), t8 = .int .u32 a ∧ t9 = .int .u32 b ∧ t10 = .int .u32 c ∧ t11 = .int .u32 d ∧ t12 = .int .u32 e ∧ t13 = .int .u32 f ∧ t14 = .int .u32 g ∧ t15 = .int .u32 o ∧ t39 = .int .i64 i ∧ i + gk = 64 ∧ W.length = i ∧ SLt ⟨a, b, c, d, e, f, g, o⟩ ∧ (∀ j, W.getD j 0 < 4294967296) ∧ roundsGo s.data.toList gk i W ⟨a, b, c, d, e, f, g, o⟩ = VF ∧ HAt w wr h0 h1 h2 h3 h4 h5 h6 h7 W kb)
  case atStart => exact ⟨0, h0, h1, h2, h3, h4, h5, h6, h7, [], rfl, rfl, rfl, rfl, rfl, rfl, rfl, rfl, rfl, rfl, rfl, HV.out, fun j => by simp, HVF.out, V2⟩
  case round =>
    clear V2
    obtain ⟨i, a, b, c, d, e, f, g, o, W, rfl, rfl, rfl, rfl, rfl, rfl, rfl, rfl, rfl, hi, hW, hlt, hwl, hgo, V⟩ := hrel
    obtain ⟨la, lb, lc, ld, le, lf, lg, lo⟩ := hlt
    simp only at la lb lc ld le lf lg lo
    have HBs := V.HB.size
    have HWL := Lib.hid hwl
    have HW := Lib.hid hW
    cases gk with
    | zero =>
      have hi' : ¬ (i : Int) < 64 := by omega
      have hVF : (⟨a, b, c, d, e, f, g, o⟩ : St) = VF := hgo
      subst hVF
      have Q0c := V.B0.cell; have Q0l := V.B0.lt; have Q1c := V.B1.cell; have Q1f := V.B1.frozen; have Q1l := V.B1.lt
      obtain ⟨s0, hs0⟩ : ∃ q, add32 h0 a = q := ⟨_, rfl⟩
      have ls0 : s0 < 4294967296 := by rw [← hs0]; exact add32_lt _ _
      have es0 : ((h0 : Int) + (a : Int)) % 4294967296 = (s0 : Int) := by rw [add32_int, hs0]
      obtain ⟨s1, hs1⟩ : ∃ q, add32 h1 b = q := ⟨_, rfl⟩
      have ls1 : s1 < 4294967296 := by rw [← hs1]; exact add32_lt _ _
      have es1 : ((h1 : Int) + (b : Int)) % 4294967296 = (s1 : Int) := by rw [add32_int, hs1]
      obtain ⟨s2, hs2⟩ : ∃ q, add32 h2 c = q := ⟨_, rfl⟩
      have ls2 : s2 < 4294967296 := by rw [← hs2]; exact add32_lt _ _
      have es2 : ((h2 : Int) + (c : Int)) % 4294967296 = (s2 : Int) := by rw [add32_int, hs2]
      obtain ⟨s3, hs3⟩ : ∃ q, add32 h3 d = q := ⟨_, rfl⟩
      have ls3 : s3 < 4294967296 := by rw [← hs3]; exact add32_lt _ _
      have es3 : ((h3 : Int) + (d : Int)) % 4294967296 = (s3 : Int) := by rw [add32_int, hs3]
      obtain ⟨s4, hs4⟩ : ∃ q, add32 h4 e = q := ⟨_, rfl⟩
      have ls4 : s4 < 4294967296 := by rw [← hs4]; exact add32_lt _ _
      have es4 : ((h4 : Int) + (e : Int)) % 4294967296 = (s4 : Int) := by rw [add32_int, hs4]
      obtain ⟨s5, hs5⟩ : ∃ q, add32 h5 f = q := ⟨_, rfl⟩
      have ls5 : s5 < 4294967296 := by rw [← hs5]; exact add32_lt _ _
      have es5 : ((h5 : Int) + (f : Int)) % 4294967296 = (s5 : Int) := by rw [add32_int, hs5]
      obtain ⟨s6, hs6⟩ : ∃ q, add32 h6 g = q := ⟨_, rfl⟩
      have ls6 : s6 < 4294967296 := by rw [← hs6]; exact add32_lt _ _
      have es6 : ((h6 : Int) + (g : Int)) % 4294967296 = (s6 : Int) := by rw [add32_int, hs6]
      obtain ⟨s7, hs7⟩ : ∃ q, add32 h7 o = q := ⟨_, rfl⟩
      have ls7 : s7 < 4294967296 := by rw [← hs7]; exact add32_lt _ _
      have es7 : ((h7 : Int) + (o : Int)) % 4294967296 = (s7 : Int) := by rw [add32_int, hs7]
      have HRES := Lib.hid (show (.agg (c35 s0 s1 s2 s3 s4 s5 s6 s7) : Value) = .agg (nums .u32 [add32 h0 a, add32 h1 b, add32 h2 c, add32 h3 d, add32 h4 e, add32 h5 f, add32 h6 g, add32 h7 o]).toArray by rw [hs0, hs1, hs2, hs3, hs4, hs5, hs6, hs7]; rfl)
      clear hs0 hs1 hs2 hs3 hs4 hs5 hs6 hs7 hi hgo
      go_wp2_with fail
      refine bodyPost_ret (v := .agg (c35 s0 s1 s2 s3 s4 s5 s6 s7)) ?_ rfl ⟨congrArg _ HRES.out, ?_⟩
      · first | (simp [results, Try.results109, go_sem, Q1c]; done) | simp [results, Try.results109, go_sem, Q1c, Q1l]
      · have HBV := V.HB
        repeat (first | (with_reducible assumption) | (with_reducible exact Below.refl _ _) | with_reducible apply bl_drewN | with_reducible apply Below.drew | (with_reducible apply bl_alloc; focus (first | (simp; done) | (simp; omega) | omega)) | (with_reducible apply bl_set; focus (first | (simp; done) | (simp; omega) | omega)))
    | succ gk =>
      have hi' : (i : Int) < 64 := by omega
      have hil : i < 64 := by omega
      rw [roundsGo] at hgo
      obtain ⟨x, hx⟩ : ∃ x, nextW s.data.toList W i = x := ⟨_, rfl⟩
      have hxl : x < 4294967296 := by rw [← hx]; exact nextW_lt _ _ _
      rw [hx] at hgo
      obtain ⟨kk, hkk⟩ : ∃ k, constK.getD i 0 = k := ⟨_, rfl⟩
      have hkl : kk < 4294967296 := by
        have h5 : constK.all (· < 4294967296) = true := by kernel_rfl
        have h6 : i < constK.length := hil
        rw [← hkk, List.getD_eq_getElem?_getD, List.getElem?_eq_getElem h6]
        exact of_decide_eq_true (List.all_eq_true.1 h5 _ (List.getElem_mem h6))
      rw [hkk] at hgo
      have HGO := Lib.hid hgo
      have HI := Lib.hid hi
      have HX := Lib.hid hx
      have HKK := Lib.hid hkk
      clear hgo hi hx hkk
      by_cases h16 : (i : Int) < 16
      · obtain ⟨p, hp⟩ : ∃ p, 4 * i = p := ⟨_, rfl⟩
        obtain ⟨p4, hp4⟩ : ∃ p, 4 * i + 4 = p := ⟨_, rfl⟩
        have hpi : (4 : Int) * i = (p : Int) := by omega
        have hpi4 : (p : Int) + 4 = (p4 : Int) := by omega
        have hple : (p : Int) ≤ (p4 : Int) := by omega
        have hp4s : (p4 : Int) ≤ s.size := by rw [hs]; omega
        have hb := be32_get s i (by rw [hs]; omega)
        rw [hp, show p + 4 = p4 by omega] at hb
        have hxb : be32 s.data.toList i = x := by rw [← HX.out]; unfold nextW; rw [if_pos (by omega)]
        have hss : (s.extract p p4).size = 4 := by rw [ByteArray.size_extract]; omega
        obtain ⟨sub, hsub⟩ : ∃ t, s.extract p p4 = t := ⟨_, rfl⟩
        rw [hsub] at hb hss
        have G1 := Lib.hid (fun W => get_any sub W (by omega) (by omega))
        rw [hss, hb, hxb] at G1
        clear hp hp4 hb hxb hss
        go_wp2_with fail
        refine (G1.out _).mono ?_
        rintro e9 W3 ⟨rfl, hb⟩
        have V3 := V.below hb
        clear hb V HBs
        have hc0 : W3.cell? ⟨w.heap.size + 2, i, none⟩ = some (.int .u32 0) := by
          rw [V3.B2.cell, ← HW.out]; exact cellsW_next W 64 (by rw [HW.out]; exact hil)
        have hf0 := V3.B2.frozen i
        have hbl := V3.B2.lt
        go_upto_region 11 with fail
        refine wp_absQ (fun W' => HAt w W' h0 h1 h2 h3 h4 h5 h6 h7 (W ++ [x]) kb) (V3.set i x HW.out hil) (fun W4 V4 => ?_)
        clear V3 hc0 hf0 hbl
        have HBs := V4.HB.size
        have hkc : W4.cell? ⟨kb, i, none⟩ = some (.int .u32 kk) := by rw [← HKK.out, ← HK.out i hil]; exact V4.HB.cell (p := ⟨kb, i, none⟩) hkb
        have hwc : W4.cell? ⟨w.heap.size + 2, i, none⟩ = some (.int .u32 x) := by
          rw [V4.B2.cell, cellsW_get _ _ _ (by rw [List.length_append, HW.out]; show i < i + 1; omega)]
          rw [List.getD_eq_getElem?_getD, List.getElem?_append_right (by rw [HW.out]; exact Nat.le_refl _), HW.out, Nat.sub_self]; rfl
        have hkbl : kb < W4.heap.size := by omega
        have hwbl := V4.B2.lt
        obtain ⟨r1, hr1⟩ : ∃ q, rotr e 6 = q := ⟨_, rfl⟩
        have lr1 : r1 < 4294967296 := by rw [← hr1]; exact rotr_lt _ _ (by assumption)
        have Rr1 := Lib.hid (fun W => right_any e 6 W (by assumption) (by decide) (by decide))
        rw [hr1] at Rr1
        obtain ⟨r2, hr2⟩ : ∃ q, rotr e 11 = q := ⟨_, rfl⟩
        have lr2 : r2 < 4294967296 := by rw [← hr2]; exact rotr_lt _ _ (by assumption)
        have Rr2 := Lib.hid (fun W => right_any e 11 W (by assumption) (by decide) (by decide))
        rw [hr2] at Rr2
        obtain ⟨r3, hr3⟩ : ∃ q, rotr e 25 = q := ⟨_, rfl⟩
        have lr3 : r3 < 4294967296 := by rw [← hr3]; exact rotr_lt _ _ (by assumption)
        have Rr3 := Lib.hid (fun W => right_any e 25 W (by assumption) (by decide) (by decide))
        rw [hr3] at Rr3
        obtain ⟨q1, hq1⟩ : ∃ q, r1 ^^^ r2 = q := ⟨_, rfl⟩
        have lq1 : q1 < 4294967296 := by rw [← hq1]; exact xor32 _ _ (by assumption) (by assumption)
        have eq1 : bits .xor .u32 (r1 : Int) (r2 : Int) = (q1 : Int) := by rw [u32_xor_nat _ _ (by assumption) (by assumption), hq1]
        obtain ⟨q2, hq2⟩ : ∃ q, q1 ^^^ r3 = q := ⟨_, rfl⟩
        have lq2 : q2 < 4294967296 := by rw [← hq2]; exact xor32 _ _ (by assumption) (by assumption)
        have eq2 : bits .xor .u32 (q1 : Int) (r3 : Int) = (q2 : Int) := by rw [u32_xor_nat _ _ (by assumption) (by assumption), hq2]
        obtain ⟨p1, hp1⟩ : ∃ q, add32 o q2 = q := ⟨_, rfl⟩
        have lp1 : p1 < 4294967296 := by rw [← hp1]; exact add32_lt _ _
        have ep1 : ((o : Int) + (q2 : Int)) % 4294967296 = (p1 : Int) := by rw [add32_int, hp1]
        obtain ⟨x1, hx1⟩ : ∃ q, f ^^^ g = q := ⟨_, rfl⟩
        have lx1 : x1 < 4294967296 := by rw [← hx1]; exact xor32 _ _ (by assumption) (by assumption)
        have ex1 : bits .xor .u32 (f : Int) (g : Int) = (x1 : Int) := by rw [u32_xor_nat _ _ (by assumption) (by assumption), hx1]
        obtain ⟨x2, hx2⟩ : ∃ q, e &&& x1 = q := ⟨_, rfl⟩
        have lx2 : x2 < 4294967296 := by rw [← hx2]; exact and32 _ _ (by assumption)
        have ex2 : bits .and .u32 (e : Int) (x1 : Int) = (x2 : Int) := by rw [u32_and_nat _ _ (by assumption) (by assumption), hx2]
        obtain ⟨x3, hx3⟩ : ∃ q, g ^^^ x2 = q := ⟨_, rfl⟩
        have lx3 : x3 < 4294967296 := by rw [← hx3]; exact xor32 _ _ (by assumption) (by assumption)
        have ex3 : bits .xor .u32 (g : Int) (x2 : Int) = (x3 : Int) := by rw [u32_xor_nat _ _ (by assumption) (by assumption), hx3]
        obtain ⟨p2, hp2⟩ : ∃ q, add32 p1 x3 = q := ⟨_, rfl⟩
        have lp2 : p2 < 4294967296 := by rw [← hp2]; exact add32_lt _ _
        have ep2 : ((p1 : Int) + (x3 : Int)) % 4294967296 = (p2 : Int) := by rw [add32_int, hp2]
        obtain ⟨p3, hp3⟩ : ∃ q, add32 p2 kk = q := ⟨_, rfl⟩
        have lp3 : p3 < 4294967296 := by rw [← hp3]; exact add32_lt _ _
        have ep3 : ((p2 : Int) + (kk : Int)) % 4294967296 = (p3 : Int) := by rw [add32_int, hp3]
        obtain ⟨tt, htt⟩ : ∃ q, add32 p3 x = q := ⟨_, rfl⟩
        have ltt : tt < 4294967296 := by rw [← htt]; exact add32_lt _ _
        have ett : ((p3 : Int) + (x : Int)) % 4294967296 = (tt : Int) := by rw [add32_int, htt]
        obtain ⟨r4, hr4⟩ : ∃ q, rotr a 2 = q := ⟨_, rfl⟩
        have lr4 : r4 < 4294967296 := by rw [← hr4]; exact rotr_lt _ _ (by assumption)
        have Rr4 := Lib.hid (fun W => right_any a 2 W (by assumption) (by decide) (by decide))
        rw [hr4] at Rr4
        obtain ⟨r5, hr5⟩ : ∃ q, rotr a 13 = q := ⟨_, rfl⟩
        have lr5 : r5 < 4294967296 := by rw [← hr5]; exact rotr_lt _ _ (by assumption)
        have Rr5 := Lib.hid (fun W => right_any a 13 W (by assumption) (by decide) (by decide))
        rw [hr5] at Rr5
        obtain ⟨r6, hr6⟩ : ∃ q, rotr a 22 = q := ⟨_, rfl⟩
        have lr6 : r6 < 4294967296 := by rw [← hr6]; exact rotr_lt _ _ (by assumption)
        have Rr6 := Lib.hid (fun W => right_any a 22 W (by assumption) (by decide) (by decide))
        rw [hr6] at Rr6
        obtain ⟨q3, hq3⟩ : ∃ q, r4 ^^^ r5 = q := ⟨_, rfl⟩
        have lq3 : q3 < 4294967296 := by rw [← hq3]; exact xor32 _ _ (by assumption) (by assumption)
        have eq3 : bits .xor .u32 (r4 : Int) (r5 : Int) = (q3 : Int) := by rw [u32_xor_nat _ _ (by assumption) (by assumption), hq3]
        obtain ⟨q4, hq4⟩ : ∃ q, q3 ^^^ r6 = q := ⟨_, rfl⟩
        have lq4 : q4 < 4294967296 := by rw [← hq4]; exact xor32 _ _ (by assumption) (by assumption)
        have eq4 : bits .xor .u32 (q3 : Int) (r6 : Int) = (q4 : Int) := by rw [u32_xor_nat _ _ (by assumption) (by assumption), hq4]
        obtain ⟨n1, hn1⟩ : ∃ q, a &&& b = q := ⟨_, rfl⟩
        have ln1 : n1 < 4294967296 := by rw [← hn1]; exact and32 _ _ (by assumption)
        have en1 : bits .and .u32 (a : Int) (b : Int) = (n1 : Int) := by rw [u32_and_nat _ _ (by assumption) (by assumption), hn1]
        obtain ⟨n2, hn2⟩ : ∃ q, a ||| b = q := ⟨_, rfl⟩
        have ln2 : n2 < 4294967296 := by rw [← hn2]; exact or32 _ _ (by assumption) (by assumption)
        have en2 : bits .or .u32 (a : Int) (b : Int) = (n2 : Int) := by rw [u32_or_nat _ _ (by assumption) (by assumption), hn2]
        obtain ⟨n3, hn3⟩ : ∃ q, c &&& n2 = q := ⟨_, rfl⟩
        have ln3 : n3 < 4294967296 := by rw [← hn3]; exact and32 _ _ (by assumption)
        have en3 : bits .and .u32 (c : Int) (n2 : Int) = (n3 : Int) := by rw [u32_and_nat _ _ (by assumption) (by assumption), hn3]
        obtain ⟨n4, hn4⟩ : ∃ q, n1 ||| n3 = q := ⟨_, rfl⟩
        have ln4 : n4 < 4294967296 := by rw [← hn4]; exact or32 _ _ (by assumption) (by assumption)
        have en4 : bits .or .u32 (n1 : Int) (n3 : Int) = (n4 : Int) := by rw [u32_or_nat _ _ (by assumption) (by assumption), hn4]
        obtain ⟨uu, huu⟩ : ∃ q, add32 q4 n4 = q := ⟨_, rfl⟩
        have luu : uu < 4294967296 := by rw [← huu]; exact add32_lt _ _
        have euu : ((q4 : Int) + (n4 : Int)) % 4294967296 = (uu : Int) := by rw [add32_int, huu]
        obtain ⟨ee, hee⟩ : ∃ q, add32 d tt = q := ⟨_, rfl⟩
        have lee : ee < 4294967296 := by rw [← hee]; exact add32_lt _ _
        have eee : ((d : Int) + (tt : Int)) % 4294967296 = (ee : Int) := by rw [add32_int, hee]
        obtain ⟨aa, haa⟩ : ∃ q, add32 tt uu = q := ⟨_, rfl⟩
        have laa : aa < 4294967296 := by rw [← haa]; exact add32_lt _ _
        have eaa : ((tt : Int) + (uu : Int)) % 4294967296 = (aa : Int) := by rw [add32_int, haa]
        have hnext : roundsGo s.data.toList gk (i + 1) (W ++ [x]) ⟨aa, a, b, c, ee, e, f, g⟩ = VF := by
          rw [← HGO.out]
          congr 1
          show _ = roundL ⟨a, b, c, d, e, f, g, o⟩ kk x
          unfold roundL tL uL Sig1 Sig0 chL majL
          simp only
          rw [hr1, hr2, hr3, hq1, hq2, hp1, hx1, hx2, hx3, hp2, hp3, htt, hr4, hr5, hr6, hq3, hq4, hn1, hn2, hn3, hn4, huu, hee, haa]
        have HNEXT := Lib.hid hnext
        clear hnext hr1 hr2 hr3 hq1 hq2 hp1 hx1 hx2 hx3 hp2 hp3 htt hr4 hr5 hr6 hq3 hq4 hn1 hn2 hn3 hn4 huu hee haa
        refine wp_region_typed 28 (fun k => match k with  | _ => []) (fun k => match k with  | _ => false) (fun k => match k with | 2 => some ⟨(Unit), (()), (fun _ => .int .u32 r1), (fun _ _ => True), (fun _ _ _ h _ => h)⟩ | 4 => some ⟨(Unit), (()), (fun _ => .int .u32 r2), (fun _ _ => True), (fun _ _ _ h _ => h)⟩ | 7 => some ⟨(Unit), (()), (fun _ => .int .u32 r3), (fun _ _ => True), (fun _ _ _ h _ => h)⟩ | _ => none) (by kernel_rfl) (by kernel_rfl) (by intro d0 v0 c0 a0 w0 h0; first | (cases d0 <;> exact h0) | exact hP _ _ _ _ _ h0) ?_
        rw [show List.range 28 = [0, 1, 2, 3, 4, 5, 6, 7, 8, 9, 10, 11, 12, 13, 14, 15, 16, 17, 18, 19, 20, 21, 22, 23, 24, 25, 26, 27] from rfl]
        first
          | (refine ty_skip rfl rfl ?_; (try simp only [Act.put, List.setIfInBounds_toArray, List.set_cons_zero, List.set_cons_succ]))
          | (refine ty_pure rfl rfl rfl rfl ?_; apply Exists.intro; refine ⟨fun wq hq hk => ?_, ?_⟩
             · have f0 := hq.cell hkc; have f1 := hq.cell hwc; simp only [pureAt]; go_simp; (try simp only [↓IntWalk.iteOmega]); (try go_bits); (try simp only [pureUpon]); (first | done | exact ⟨rfl, rfl⟩ | exact ⟨trivial, rfl⟩ | rfl)
             (try simp only [Act.put, List.setIfInBounds_toArray, List.set_cons_zero, List.set_cons_succ]))
        first
          | (refine ty_skip rfl rfl ?_; (try simp only [Act.put, List.setIfInBounds_toArray, List.set_cons_zero, List.set_cons_succ]))
          | (refine ty_pure rfl rfl rfl rfl ?_; apply Exists.intro; refine ⟨fun wq hq hk => ?_, ?_⟩
             · have f0 := hq.cell hkc; have f1 := hq.cell hwc; simp only [pureAt]; go_simp; (try simp only [↓IntWalk.iteOmega]); (try go_bits); (try simp only [pureUpon]); (first | done | exact ⟨rfl, rfl⟩ | exact ⟨trivial, rfl⟩ | rfl)
             (try simp only [Act.put, List.setIfInBounds_toArray, List.set_cons_zero, List.set_cons_succ]))
        refine ty_rel rfl rfl _ rfl rfl (fun wq hq hk => ?_) ?_
        · have f0 := hq.cell hkc; have f1 := hq.cell hwc; simp only [relAt]; go_simp; (try simp only [relUpon]); (go_at_call 112; refine (Rr1.out _).mono ?_; rintro e w9 ⟨rfl, hb9⟩; exact ⟨_, rfl, .mk hb9 () rfl trivial⟩)
        rintro ⟨⟩
        (try simp only [Act.put, List.setIfInBounds_toArray, List.set_cons_zero, List.set_cons_succ])
        first
          | (refine ty_skip rfl rfl ?_; (try simp only [Act.put, List.setIfInBounds_toArray, List.set_cons_zero, List.set_cons_succ]))
          | (refine ty_pure rfl rfl rfl rfl ?_; apply Exists.intro; refine ⟨fun wq hq hk => ?_, ?_⟩
             · have f0 := hq.cell hkc; have f1 := hq.cell hwc; simp only [pureAt]; go_simp; (try simp only [↓IntWalk.iteOmega]); (try go_bits); (try simp only [pureUpon]); (first | done | exact ⟨rfl, rfl⟩ | exact ⟨trivial, rfl⟩ | rfl)
             (try simp only [Act.put, List.setIfInBounds_toArray, List.set_cons_zero, List.set_cons_succ]))
        refine ty_rel rfl rfl _ rfl rfl (fun wq hq hk => ?_) ?_
        · have f0 := hq.cell hkc; have f1 := hq.cell hwc; simp only [relAt]; go_simp; (try simp only [relUpon]); (go_at_call 112; refine (Rr2.out _).mono ?_; rintro e w9 ⟨rfl, hb9⟩; exact ⟨_, rfl, .mk hb9 () rfl trivial⟩)
        rintro ⟨⟩
        (try simp only [Act.put, List.setIfInBounds_toArray, List.set_cons_zero, List.set_cons_succ])
        first
          | (refine ty_skip rfl rfl ?_; (try simp only [Act.put, List.setIfInBounds_toArray, List.set_cons_zero, List.set_cons_succ]))
          | (refine ty_pure rfl rfl rfl rfl ?_; apply Exists.intro; refine ⟨fun wq hq hk => ?_, ?_⟩
             · have f0 := hq.cell hkc; have f1 := hq.cell hwc; simp only [pureAt]; go_simp; (try simp only [↓IntWalk.iteOmega]); (try go_bits); (try simp only [pureUpon]); (first | done | exact ⟨rfl, rfl⟩ | exact ⟨trivial, rfl⟩ | rfl)
             (try simp only [Act.put, List.setIfInBounds_toArray, List.set_cons_zero, List.set_cons_succ]))
        first
          | (refine ty_skip rfl rfl ?_; (try simp only [Act.put, List.setIfInBounds_toArray, List.set_cons_zero, List.set_cons_succ]))
          | (refine ty_pure rfl rfl rfl rfl ?_; apply Exists.intro; refine ⟨fun wq hq hk => ?_, ?_⟩
             · have f0 := hq.cell hkc; have f1 := hq.cell hwc; simp only [pureAt]; go_simp; (try simp only [↓IntWalk.iteOmega]); (try go_bits); (try simp only [pureUpon]); (first | done | exact ⟨rfl, rfl⟩ | exact ⟨trivial, rfl⟩ | rfl)
             (try simp only [Act.put, List.setIfInBounds_toArray, List.set_cons_zero, List.set_cons_succ]))
        refine ty_rel rfl rfl _ rfl rfl (fun wq hq hk => ?_) ?_
        · have f0 := hq.cell hkc; have f1 := hq.cell hwc; simp only [relAt]; go_simp; (try simp only [relUpon]); (go_at_call 112; refine (Rr3.out _).mono ?_; rintro e w9 ⟨rfl, hb9⟩; exact ⟨_, rfl, .mk hb9 () rfl trivial⟩)
        rintro ⟨⟩
        (try simp only [Act.put, List.setIfInBounds_toArray, List.set_cons_zero, List.set_cons_succ])
        first
          | (refine ty_skip rfl rfl ?_; (try simp only [Act.put, List.setIfInBounds_toArray, List.set_cons_zero, List.set_cons_succ]))
          | (refine ty_pure rfl rfl rfl rfl ?_; apply Exists.intro; refine ⟨fun wq hq hk => ?_, ?_⟩
             · have f0 := hq.cell hkc; have f1 := hq.cell hwc; simp only [pureAt]; go_simp; (try simp only [↓IntWalk.iteOmega]); (try go_bits); (try simp only [pureUpon]); (first | done | exact ⟨rfl, rfl⟩ | exact ⟨trivial, rfl⟩ | rfl)
             (try simp only [Act.put, List.setIfInBounds_toArray, List.set_cons_zero, List.set_cons_succ]))
        first
          | (refine ty_skip rfl rfl ?_; (try simp only [Act.put, List.setIfInBounds_toArray, List.set_cons_zero, List.set_cons_succ]))
          | (refine ty_pure rfl rfl rfl rfl ?_; apply Exists.intro; refine ⟨fun wq hq hk => ?_, ?_⟩
             · have f0 := hq.cell hkc; have f1 := hq.cell hwc; simp only [pureAt]; go_simp; (try simp only [↓IntWalk.iteOmega]); (try go_bits); (try simp only [pureUpon]); (first | done | exact ⟨rfl, rfl⟩ | exact ⟨trivial, rfl⟩ | rfl)
             (try simp only [Act.put, List.setIfInBounds_toArray, List.set_cons_zero, List.set_cons_succ]))
        first
          | (refine ty_skip rfl rfl ?_; (try simp only [Act.put, List.setIfInBounds_toArray, List.set_cons_zero, List.set_cons_succ]))
          | (refine ty_pure rfl rfl rfl rfl ?_; apply Exists.intro; refine ⟨fun wq hq hk => ?_, ?_⟩
             · have f0 := hq.cell hkc; have f1 := hq.cell hwc; simp only [pureAt]; go_simp; (try simp only [↓IntWalk.iteOmega]); (try go_bits); (try simp only [pureUpon]); (first | done | exact ⟨rfl, rfl⟩ | exact ⟨trivial, rfl⟩ | rfl)
             (try simp only [Act.put, List.setIfInBounds_toArray, List.set_cons_zero, List.set_cons_succ]))
        first
          | (refine ty_skip rfl rfl ?_; (try simp only [Act.put, List.setIfInBounds_toArray, List.set_cons_zero, List.set_cons_succ]))
          | (refine ty_pure rfl rfl rfl rfl ?_; apply Exists.intro; refine ⟨fun wq hq hk => ?_, ?_⟩
             · have f0 := hq.cell hkc; have f1 := hq.cell hwc; simp only [pureAt]; go_simp; (try simp only [↓IntWalk.iteOmega]); (try go_bits); (try simp only [pureUpon]); (first | done | exact ⟨rfl, rfl⟩ | exact ⟨trivial, rfl⟩ | rfl)
             (try simp only [Act.put, List.setIfInBounds_toArray, List.set_cons_zero, List.set_cons_succ]))
        first
          | (refine ty_skip rfl rfl ?_; (try simp only [Act.put, List.setIfInBounds_toArray, List.set_cons_zero, List.set_cons_succ]))
          | (refine ty_pure rfl rfl rfl rfl ?_; apply Exists.intro; refine ⟨fun wq hq hk => ?_, ?_⟩
             · have f0 := hq.cell hkc; have f1 := hq.cell hwc; simp only [pureAt]; go_simp; (try simp only [↓IntWalk.iteOmega]); (try go_bits); (try simp only [pureUpon]); (first | done | exact ⟨rfl, rfl⟩ | exact ⟨trivial, rfl⟩ | rfl)
             (try simp only [Act.put, List.setIfInBounds_toArray, List.set_cons_zero, List.set_cons_succ]))
        first
          | (refine ty_skip rfl rfl ?_; (try simp only [Act.put, List.setIfInBounds_toArray, List.set_cons_zero, List.set_cons_succ]))
          | (refine ty_pure rfl rfl rfl rfl ?_; apply Exists.intro; refine ⟨fun wq hq hk => ?_, ?_⟩
             · have f0 := hq.cell hkc; have f1 := hq.cell hwc; simp only [pureAt]; go_simp; (try simp only [↓IntWalk.iteOmega]); (try go_bits); (try simp only [pureUpon]); (first | done | exact ⟨rfl, rfl⟩ | exact ⟨trivial, rfl⟩ | rfl)
             (try simp only [Act.put, List.setIfInBounds_toArray, List.set_cons_zero, List.set_cons_succ]))
        first
          | (refine ty_skip rfl rfl ?_; (try simp only [Act.put, List.setIfInBounds_toArray, List.set_cons_zero, List.set_cons_succ]))
          | (refine ty_pure rfl rfl rfl rfl ?_; apply Exists.intro; refine ⟨fun wq hq hk => ?_, ?_⟩
             · have f0 := hq.cell hkc; have f1 := hq.cell hwc; simp only [pureAt]; go_simp; (try simp only [↓IntWalk.iteOmega]); (try go_bits); (try simp only [pureUpon]); (first | done | exact ⟨rfl, rfl⟩ | exact ⟨trivial, rfl⟩ | rfl)
             (try simp only [Act.put, List.setIfInBounds_toArray, List.set_cons_zero, List.set_cons_succ]))
        first
          | (refine ty_skip rfl rfl ?_; (try simp only [Act.put, List.setIfInBounds_toArray, List.set_cons_zero, List.set_cons_succ]))
          | (refine ty_pure rfl rfl rfl rfl ?_; apply Exists.intro; refine ⟨fun wq hq hk => ?_, ?_⟩
             · have f0 := hq.cell hkc; have f1 := hq.cell hwc; simp only [pureAt]; go_simp; (try simp only [↓IntWalk.iteOmega]); (try go_bits); (try simp only [pureUpon]); (first | done | exact ⟨rfl, rfl⟩ | exact ⟨trivial, rfl⟩ | rfl)
             (try simp only [Act.put, List.setIfInBounds_toArray, List.set_cons_zero, List.set_cons_succ]))
        first
          | (refine ty_skip rfl rfl ?_; (try simp only [Act.put, List.setIfInBounds_toArray, List.set_cons_zero, List.set_cons_succ]))
          | (refine ty_pure rfl rfl rfl rfl ?_; apply Exists.intro; refine ⟨fun wq hq hk => ?_, ?_⟩
             · have f0 := hq.cell hkc; have f1 := hq.cell hwc; simp only [pureAt]; go_simp; (try simp only [↓IntWalk.iteOmega]); (try go_bits); (try simp only [pureUpon]); (first | done | exact ⟨rfl, rfl⟩ | exact ⟨trivial, rfl⟩ | rfl)
             (try simp only [Act.put, List.setIfInBounds_toArray, List.set_cons_zero, List.set_cons_succ]))
        first
          | (refine ty_skip rfl rfl ?_; (try simp only [Act.put, List.setIfInBounds_toArray, List.set_cons_zero, List.set_cons_succ]))
          | (refine ty_pure rfl rfl rfl rfl ?_; apply Exists.intro; refine ⟨fun wq hq hk => ?_, ?_⟩
             · have f0 := hq.cell hkc; have f1 := hq.cell hwc; simp only [pureAt]; go_simp; (try simp only [↓IntWalk.iteOmega]); (try go_bits); (try simp only [pureUpon]); (first | done | exact ⟨rfl, rfl⟩ | exact ⟨trivial, rfl⟩ | rfl)
             (try simp only [Act.put, List.setIfInBounds_toArray, List.set_cons_zero, List.set_cons_succ]))
        first
          | (refine ty_skip rfl rfl ?_; (try simp only [Act.put, List.setIfInBounds_toArray, List.set_cons_zero, List.set_cons_succ]))
          | (refine ty_pure rfl rfl rfl rfl ?_; apply Exists.intro; refine ⟨fun wq hq hk => ?_, ?_⟩
             · have f0 := hq.cell hkc; have f1 := hq.cell hwc; simp only [pureAt]; go_simp; (try simp only [↓IntWalk.iteOmega]); (try go_bits); (try simp only [pureUpon]); (first | done | exact ⟨rfl, rfl⟩ | exact ⟨trivial, rfl⟩ | rfl)
             (try simp only [Act.put, List.setIfInBounds_toArray, List.set_cons_zero, List.set_cons_succ]))
        first
          | (refine ty_skip rfl rfl ?_; (try simp only [Act.put, List.setIfInBounds_toArray, List.set_cons_zero, List.set_cons_succ]))
          | (refine ty_pure rfl rfl rfl rfl ?_; apply Exists.intro; refine ⟨fun wq hq hk => ?_, ?_⟩
             · have f0 := hq.cell hkc; have f1 := hq.cell hwc; simp only [pureAt]; go_simp; (try simp only [↓IntWalk.iteOmega]); (try go_bits); (try simp only [pureUpon]); (first | done | exact ⟨rfl, rfl⟩ | exact ⟨trivial, rfl⟩ | rfl)
             (try simp only [Act.put, List.setIfInBounds_toArray, List.set_cons_zero, List.set_cons_succ]))
        first
          | (refine ty_skip rfl rfl ?_; (try simp only [Act.put, List.setIfInBounds_toArray, List.set_cons_zero, List.set_cons_succ]))
          | (refine ty_pure rfl rfl rfl rfl ?_; apply Exists.intro; refine ⟨fun wq hq hk => ?_, ?_⟩
             · have f0 := hq.cell hkc; have f1 := hq.cell hwc; simp only [pureAt]; go_simp; (try simp only [↓IntWalk.iteOmega]); (try go_bits); (try simp only [pureUpon]); (first | done | exact ⟨rfl, rfl⟩ | exact ⟨trivial, rfl⟩ | rfl)
             (try simp only [Act.put, List.setIfInBounds_toArray, List.set_cons_zero, List.set_cons_succ]))
        first
          | (refine ty_skip rfl rfl ?_; (try simp only [Act.put, List.setIfInBounds_toArray, List.set_cons_zero, List.set_cons_succ]))
          | (refine ty_pure rfl rfl rfl rfl ?_; apply Exists.intro; refine ⟨fun wq hq hk => ?_, ?_⟩
             · have f0 := hq.cell hkc; have f1 := hq.cell hwc; simp only [pureAt]; go_simp; (try simp only [↓IntWalk.iteOmega]); (try go_bits); (try simp only [pureUpon]); (first | done | exact ⟨rfl, rfl⟩ | exact ⟨trivial, rfl⟩ | rfl)
             (try simp only [Act.put, List.setIfInBounds_toArray, List.set_cons_zero, List.set_cons_succ]))
        first
          | (refine ty_skip rfl rfl ?_; (try simp only [Act.put, List.setIfInBounds_toArray, List.set_cons_zero, List.set_cons_succ]))
          | (refine ty_pure rfl rfl rfl rfl ?_; apply Exists.intro; refine ⟨fun wq hq hk => ?_, ?_⟩
             · have f0 := hq.cell hkc; have f1 := hq.cell hwc; simp only [pureAt]; go_simp; (try simp only [↓IntWalk.iteOmega]); (try go_bits); (try simp only [pureUpon]); (first | done | exact ⟨rfl, rfl⟩ | exact ⟨trivial, rfl⟩ | rfl)
             (try simp only [Act.put, List.setIfInBounds_toArray, List.set_cons_zero, List.set_cons_succ]))
        first
          | (refine ty_skip rfl rfl ?_; (try simp only [Act.put, List.setIfInBounds_toArray, List.set_cons_zero, List.set_cons_succ]))
          | (refine ty_pure rfl rfl rfl rfl ?_; apply Exists.intro; refine ⟨fun wq hq hk => ?_, ?_⟩
             · have f0 := hq.cell hkc; have f1 := hq.cell hwc; simp only [pureAt]; go_simp; (try simp only [↓IntWalk.iteOmega]); (try go_bits); (try simp only [pureUpon]); (first | done | exact ⟨rfl, rfl⟩ | exact ⟨trivial, rfl⟩ | rfl)
             (try simp only [Act.put, List.setIfInBounds_toArray, List.set_cons_zero, List.set_cons_succ]))
        first
          | (refine ty_skip rfl rfl ?_; (try simp only [Act.put, List.setIfInBounds_toArray, List.set_cons_zero, List.set_cons_succ]))
          | (refine ty_pure rfl rfl rfl rfl ?_; apply Exists.intro; refine ⟨fun wq hq hk => ?_, ?_⟩
             · have f0 := hq.cell hkc; have f1 := hq.cell hwc; simp only [pureAt]; go_simp; (try simp only [↓IntWalk.iteOmega]); (try go_bits); (try simp only [pureUpon]); (first | done | exact ⟨rfl, rfl⟩ | exact ⟨trivial, rfl⟩ | rfl)
             (try simp only [Act.put, List.setIfInBounds_toArray, List.set_cons_zero, List.set_cons_succ]))
        first
          | (refine ty_skip rfl rfl ?_; (try simp only [Act.put, List.setIfInBounds_toArray, List.set_cons_zero, List.set_cons_succ]))
          | (refine ty_pure rfl rfl rfl rfl ?_; apply Exists.intro; refine ⟨fun wq hq hk => ?_, ?_⟩
             · have f0 := hq.cell hkc; have f1 := hq.cell hwc; simp only [pureAt]; go_simp; (try simp only [↓IntWalk.iteOmega]); (try go_bits); (try simp only [pureUpon]); (first | done | exact ⟨rfl, rfl⟩ | exact ⟨trivial, rfl⟩ | rfl)
             (try simp only [Act.put, List.setIfInBounds_toArray, List.set_cons_zero, List.set_cons_succ]))
        first
          | (refine ty_skip rfl rfl ?_; (try simp only [Act.put, List.setIfInBounds_toArray, List.set_cons_zero, List.set_cons_succ]))
          | (refine ty_pure rfl rfl rfl rfl ?_; apply Exists.intro; refine ⟨fun wq hq hk => ?_, ?_⟩
             · have f0 := hq.cell hkc; have f1 := hq.cell hwc; simp only [pureAt]; go_simp; (try simp only [↓IntWalk.iteOmega]); (try go_bits); (try simp only [pureUpon]); (first | done | exact ⟨rfl, rfl⟩ | exact ⟨trivial, rfl⟩ | rfl)
             (try simp only [Act.put, List.setIfInBounds_toArray, List.set_cons_zero, List.set_cons_succ]))
        first
          | (refine ty_skip rfl rfl ?_; (try simp only [Act.put, List.setIfInBounds_toArray, List.set_cons_zero, List.set_cons_succ]))
          | (refine ty_pure rfl rfl rfl rfl ?_; apply Exists.intro; refine ⟨fun wq hq hk => ?_, ?_⟩
             · have f0 := hq.cell hkc; have f1 := hq.cell hwc; simp only [pureAt]; go_simp; (try simp only [↓IntWalk.iteOmega]); (try go_bits); (try simp only [pureUpon]); (first | done | exact ⟨rfl, rfl⟩ | exact ⟨trivial, rfl⟩ | rfl)
             (try simp only [Act.put, List.setIfInBounds_toArray, List.set_cons_zero, List.set_cons_succ]))
        refine ty_nil ?_
        simp only [List.drop_succ_cons, List.drop_zero]
        intro W5 hw5 hΓ
        have V5 := V4.below hw5.out
        clear hΓ hw5 V4 HBs hkc hwc hkbl hwbl
        go_wp2_with fail
        refine (Rr4.out _).mono ?_
        rintro e5 W6 ⟨rfl, hb6⟩
        have V6 := V5.below hb6
        clear V5 hb6
        go_wp2_with fail
        refine (Rr5.out _).mono ?_
        rintro e5 W7 ⟨rfl, hb6⟩
        have V7 := V6.below hb6
        clear V6 hb6
        go_wp2_with fail
        refine (Rr6.out _).mono ?_
        rintro e5 W8 ⟨rfl, hb6⟩
        have V8 := V7.below hb6
        clear V7 hb6
        go_wp2_with fail
        go_roundg gk
        case rel =>
          have hwl2 : ∀ j, (W ++ [x]).getD j 0 < 4294967296 := fun j => getD_snoc_lt W x j HWL.out hxl
          have hl2 : (W ++ [x]).length = i + 1 := by rw [List.length_append, HW.out]; rfl
          have hg2 : i + 1 + gk = 64 := by have := HI.out; omega
          refine ⟨i + 1, aa, a, b, c, ee, e, f, g, W ++ [x], congrArg _ eaa, rfl, rfl, rfl, congrArg _ eee, rfl, rfl, rfl, by simp, hg2, hl2, ⟨laa, la, lb, lc, lee, le, lf, lg⟩, hwl2, HNEXT.out, V8⟩
        case measure => omega
      · have hi16 : 16 ≤ i := by omega
        obtain ⟨j15, hj15⟩ : ∃ j, i - 15 = j := ⟨_, rfl⟩
        obtain ⟨j2, hj2⟩ : ∃ j, i - 2 = j := ⟨_, rfl⟩
        obtain ⟨j16, hj16⟩ : ∃ j, i - 16 = j := ⟨_, rfl⟩
        obtain ⟨j7, hj7⟩ : ∃ j, i - 7 = j := ⟨_, rfl⟩
        have I15 : (i : Int) - 15 = (j15 : Int) := by omega
        have I2 : (i : Int) - 2 = (j2 : Int) := by omega
        have I16 : (i : Int) - 16 = (j16 : Int) := by omega
        have I7 : (i : Int) - 7 = (j7 : Int) := by omega
        have K15 : (j15 : Int) < 64 := by omega
        have K2 : (j2 : Int) < 64 := by omega
        have K16 : (j16 : Int) < 64 := by omega
        have K7 : (j7 : Int) < 64 := by omega
        obtain ⟨x15, hx15⟩ : ∃ x, W.getD j15 0 = x := ⟨_, rfl⟩
        obtain ⟨x2, hx2⟩ : ∃ x, W.getD j2 0 = x := ⟨_, rfl⟩
        obtain ⟨x16, hx16⟩ : ∃ x, W.getD j16 0 = x := ⟨_, rfl⟩
        obtain ⟨x7, hx7⟩ : ∃ x, W.getD j7 0 = x := ⟨_, rfl⟩
        have lx15 : x15 < 4294967296 := by rw [← hx15]; exact HWL.out _
        have lx2 : x2 < 4294967296 := by rw [← hx2]; exact HWL.out _
        have lx16 : x16 < 4294967296 := by rw [← hx16]; exact HWL.out _
        have lx7 : x7 < 4294967296 := by rw [← hx7]; exact HWL.out _
        have C15 : wr.cell? ⟨w.heap.size + 2, j15, none⟩ = some (.int .u32 x15) := by rw [V.B2.cell, cellsW_get _ _ _ (by rw [HW.out]; omega), hx15]
        have C2 : wr.cell? ⟨w.heap.size + 2, j2, none⟩ = some (.int .u32 x2) := by rw [V.B2.cell, cellsW_get _ _ _ (by rw [HW.out]; omega), hx2]
        have C16 : wr.cell? ⟨w.heap.size + 2, j16, none⟩ = some (.int .u32 x16) := by rw [V.B2.cell, cellsW_get _ _ _ (by rw [HW.out]; omega), hx16]
        have C7 : wr.cell? ⟨w.heap.size + 2, j7, none⟩ = some (.int .u32 x7) := by rw [V.B2.cell, cellsW_get _ _ _ (by rw [HW.out]; omega), hx7]
        have hbl := V.B2.lt
        obtain ⟨u1, hu1⟩ : ∃ q, rotr x15 7 = q := ⟨_, rfl⟩
        have lu1 : u1 < 4294967296 := by rw [← hu1]; exact rotr_lt _ _ (by assumption)
        have Ru1 := Lib.hid (fun W => right_any x15 7 W (by assumption) (by decide) (by decide))
        rw [hu1] at Ru1
        obtain ⟨u2, hu2⟩ : ∃ q, rotr x15 18 = q := ⟨_, rfl⟩
        have lu2 : u2 < 4294967296 := by rw [← hu2]; exact rotr_lt _ _ (by assumption)
        have Ru2 := Lib.hid (fun W => right_any x15 18 W (by assumption) (by decide) (by decide))
        rw [hu2] at Ru2
        obtain ⟨u3, hu3⟩ : ∃ q, rotr x2 17 = q := ⟨_, rfl⟩
        have lu3 : u3 < 4294967296 := by rw [← hu3]; exact rotr_lt _ _ (by assumption)
        have Ru3 := Lib.hid (fun W => right_any x2 17 W (by assumption) (by decide) (by decide))
        rw [hu3] at Ru3
        obtain ⟨u4, hu4⟩ : ∃ q, rotr x2 19 = q := ⟨_, rfl⟩
        have lu4 : u4 < 4294967296 := by rw [← hu4]; exact rotr_lt _ _ (by assumption)
        have Ru4 := Lib.hid (fun W => right_any x2 19 W (by assumption) (by decide) (by decide))
        rw [hu4] at Ru4
        obtain ⟨v1, hv1⟩ : ∃ q, u1 ^^^ u2 = q := ⟨_, rfl⟩
        have lv1 : v1 < 4294967296 := by rw [← hv1]; exact xor32 _ _ (by assumption) (by assumption)
        have ev1 : bits .xor .u32 (u1 : Int) (u2 : Int) = (v1 : Int) := by rw [u32_xor_nat _ _ (by assumption) (by assumption), hv1]
        obtain ⟨v2, hv2⟩ : ∃ q, x15 >>> 3 = q := ⟨_, rfl⟩
        have lv2 : v2 < 4294967296 := by rw [← hv2]; exact shr32_lt _ _ lx15
        have ev2 : (x15 : Int) / 8 = (v2 : Int) := by rw [← hv2, Nat.shiftRight_eq_div_pow]; simp
        obtain ⟨v3, hv3⟩ : ∃ q, v1 ^^^ v2 = q := ⟨_, rfl⟩
        have lv3 : v3 < 4294967296 := by rw [← hv3]; exact xor32 _ _ (by assumption) (by assumption)
        have ev3 : bits .xor .u32 (v1 : Int) (v2 : Int) = (v3 : Int) := by rw [u32_xor_nat _ _ (by assumption) (by assumption), hv3]
        obtain ⟨y1, hy1⟩ : ∃ q, add32 x16 v3 = q := ⟨_, rfl⟩
        have ly1 : y1 < 4294967296 := by rw [← hy1]; exact add32_lt _ _
        have ey1 : ((x16 : Int) + (v3 : Int)) % 4294967296 = (y1 : Int) := by rw [add32_int, hy1]
        obtain ⟨y2, hy2⟩ : ∃ q, add32 y1 x7 = q := ⟨_, rfl⟩
        have ly2 : y2 < 4294967296 := by rw [← hy2]; exact add32_lt _ _
        have ey2 : ((y1 : Int) + (x7 : Int)) % 4294967296 = (y2 : Int) := by rw [add32_int, hy2]
        obtain ⟨v4, hv4⟩ : ∃ q, u3 ^^^ u4 = q := ⟨_, rfl⟩
        have lv4 : v4 < 4294967296 := by rw [← hv4]; exact xor32 _ _ (by assumption) (by assumption)
        have ev4 : bits .xor .u32 (u3 : Int) (u4 : Int) = (v4 : Int) := by rw [u32_xor_nat _ _ (by assumption) (by assumption), hv4]
        obtain ⟨v5, hv5⟩ : ∃ q, x2 >>> 10 = q := ⟨_, rfl⟩
        have lv5 : v5 < 4294967296 := by rw [← hv5]; exact shr32_lt _ _ lx2
        have ev5 : (x2 : Int) / 1024 = (v5 : Int) := by rw [← hv5, Nat.shiftRight_eq_div_pow]; simp
        obtain ⟨v6, hv6⟩ : ∃ q, v4 ^^^ v5 = q := ⟨_, rfl⟩
        have lv6 : v6 < 4294967296 := by rw [← hv6]; exact xor32 _ _ (by assumption) (by assumption)
        have ev6 : bits .xor .u32 (v4 : Int) (v5 : Int) = (v6 : Int) := by rw [u32_xor_nat _ _ (by assumption) (by assumption), hv6]
        have ex : ((y2 : Int) + (v6 : Int)) % 4294967296 = (x : Int) := by
          rw [add32_int]
          congr 1
          rw [← HX.out]
          unfold nextW
          rw [if_neg (by omega), hj16, hj15, hj7, hj2, hx16, hx15, hx7, hx2]
          unfold sig0 sig1
          rw [hu1, hu2, hu3, hu4, hv1, hv2, hv3, hy1, hy2, hv4, hv5, hv6]
        clear hj15 hj2 hj16 hj7 hx15 hx2 hx16 hx7 hu1 hu2 hu3 hu4 hv1 hv2 hv3 hy1 hy2 hv4 hv5 hv6
        go_wp2_with fail
        refine wp_region_gr (by kernel_rfl) (by kernel_rfl) ?_
        repeat (first
          | go_big_quiet_skip
          | ((refine BigFrame.wpQuiet_want rfl (fun K hK => quiet_mk ?_)); apply Exists.intro; refine ⟨fun wq hq => ?_, hK _ ?_⟩
             · have f0 := hq.cell C15; have f1 := hq.cell C2; go_simp; (try simp only [↓IntWalk.iteOmega]); (try go_bits)
               first | done | rfl | exact ⟨rfl, rfl⟩ | exact ⟨trivial, rfl⟩
             clear hK K; (try simp only [Act.put, List.setIfInBounds_toArray, List.set_cons_zero, List.set_cons_succ])))
        refine wpQuiet_nil ?_
        intro W3 hw3
        have V3 := V.below hw3.out
        have C16' : W3.cell? ⟨w.heap.size + 2, j16, none⟩ = some (.int .u32 x16) := (hw3.out.cell (p := ⟨w.heap.size + 2, _, none⟩) hbl).trans C16
        have C7' : W3.cell? ⟨w.heap.size + 2, j7, none⟩ = some (.int .u32 x7) := (hw3.out.cell (p := ⟨w.heap.size + 2, _, none⟩) hbl).trans C7
        have hbl3 := V3.B2.lt
        clear hw3 V HBs C15 C2 C16 C7 hbl
        go_wp2_with fail
        refine wp_region_typed 28 (fun k => match k with  | _ => []) (fun k => match k with  | _ => false) (fun k => match k with | 6 => some ⟨(Unit), (()), (fun _ => .int .u32 u1), (fun _ _ => True), (fun _ _ _ h _ => h)⟩ | 8 => some ⟨(Unit), (()), (fun _ => .int .u32 u2), (fun _ _ => True), (fun _ _ _ h _ => h)⟩ | 20 => some ⟨(Unit), (()), (fun _ => .int .u32 u3), (fun _ _ => True), (fun _ _ _ h _ => h)⟩ | 22 => some ⟨(Unit), (()), (fun _ => .int .u32 u4), (fun _ _ => True), (fun _ _ _ h _ => h)⟩ | _ => none) (by kernel_rfl) (by kernel_rfl) (by intro d0 v0 c0 a0 w0 h0; first | (cases d0 <;> exact h0) | exact hP _ _ _ _ _ h0) ?_
        rw [show List.range 28 = [0, 1, 2, 3, 4, 5, 6, 7, 8, 9, 10, 11, 12, 13, 14, 15, 16, 17, 18, 19, 20, 21, 22, 23, 24, 25, 26, 27] from rfl]
        first
          | (refine ty_skip rfl rfl ?_; (try simp only [Act.put, List.setIfInBounds_toArray, List.set_cons_zero, List.set_cons_succ]))
          | (refine ty_pure rfl rfl rfl rfl ?_; apply Exists.intro; refine ⟨fun wq hq hk => ?_, ?_⟩
             · have f0 := hq.cell C16'; have f1 := hq.cell C7'; simp only [pureAt]; go_simp; (try simp only [↓IntWalk.iteOmega]); (try go_bits); (try simp only [pureUpon]); (first | done | exact ⟨rfl, rfl⟩ | exact ⟨trivial, rfl⟩ | rfl)
             (try simp only [Act.put, List.setIfInBounds_toArray, List.set_cons_zero, List.set_cons_succ]))
        first
          | (refine ty_skip rfl rfl ?_; (try simp only [Act.put, List.setIfInBounds_toArray, List.set_cons_zero, List.set_cons_succ]))
          | (refine ty_pure rfl rfl rfl rfl ?_; apply Exists.intro; refine ⟨fun wq hq hk => ?_, ?_⟩
             · have f0 := hq.cell C16'; have f1 := hq.cell C7'; simp only [pureAt]; go_simp; (try simp only [↓IntWalk.iteOmega]); (try go_bits); (try simp only [pureUpon]); (first | done | exact ⟨rfl, rfl⟩ | exact ⟨trivial, rfl⟩ | rfl)
             (try simp only [Act.put, List.setIfInBounds_toArray, List.set_cons_zero, List.set_cons_succ]))
        first
          | (refine ty_skip rfl rfl ?_; (try simp only [Act.put, List.setIfInBounds_toArray, List.set_cons_zero, List.set_cons_succ]))
          | (refine ty_pure rfl rfl rfl rfl ?_; apply Exists.intro; refine ⟨fun wq hq hk => ?_, ?_⟩
             · have f0 := hq.cell C16'; have f1 := hq.cell C7'; simp only [pureAt]; go_simp; (try simp only [↓IntWalk.iteOmega]); (try go_bits); (try simp only [pureUpon]); (first | done | exact ⟨rfl, rfl⟩ | exact ⟨trivial, rfl⟩ | rfl)
             (try simp only [Act.put, List.setIfInBounds_toArray, List.set_cons_zero, List.set_cons_succ]))
        first
          | (refine ty_skip rfl rfl ?_; (try simp only [Act.put, List.setIfInBounds_toArray, List.set_cons_zero, List.set_cons_succ]))
          | (refine ty_pure rfl rfl rfl rfl ?_; apply Exists.intro; refine ⟨fun wq hq hk => ?_, ?_⟩
             · have f0 := hq.cell C16'; have f1 := hq.cell C7'; simp only [pureAt]; go_simp; (try simp only [↓IntWalk.iteOmega]); (try go_bits); (try simp only [pureUpon]); (first | done | exact ⟨rfl, rfl⟩ | exact ⟨trivial, rfl⟩ | rfl)
             (try simp only [Act.put, List.setIfInBounds_toArray, List.set_cons_zero, List.set_cons_succ]))
        first
          | (refine ty_skip rfl rfl ?_; (try simp only [Act.put, List.setIfInBounds_toArray, List.set_cons_zero, List.set_cons_succ]))
          | (refine ty_pure rfl rfl rfl rfl ?_; apply Exists.intro; refine ⟨fun wq hq hk => ?_, ?_⟩
             · have f0 := hq.cell C16'; have f1 := hq.cell C7'; simp only [pureAt]; go_simp; (try simp only [↓IntWalk.iteOmega]); (try go_bits); (try simp only [pureUpon]); (first | done | exact ⟨rfl, rfl⟩ | exact ⟨trivial, rfl⟩ | rfl)
             (try simp only [Act.put, List.setIfInBounds_toArray, List.set_cons_zero, List.set_cons_succ]))
        first
          | (refine ty_skip rfl rfl ?_; (try simp only [Act.put, List.setIfInBounds_toArray, List.set_cons_zero, List.set_cons_succ]))
          | (refine ty_pure rfl rfl rfl rfl ?_; apply Exists.intro; refine ⟨fun wq hq hk => ?_, ?_⟩
             · have f0 := hq.cell C16'; have f1 := hq.cell C7'; simp only [pureAt]; go_simp; (try simp only [↓IntWalk.iteOmega]); (try go_bits); (try simp only [pureUpon]); (first | done | exact ⟨rfl, rfl⟩ | exact ⟨trivial, rfl⟩ | rfl)
             (try simp only [Act.put, List.setIfInBounds_toArray, List.set_cons_zero, List.set_cons_succ]))
        refine ty_rel rfl rfl _ rfl rfl (fun wq hq hk => ?_) ?_
        · have f0 := hq.cell C16'; have f1 := hq.cell C7'; simp only [relAt]; go_simp; (try simp only [relUpon]); (go_at_call 112; refine (Ru1.out _).mono ?_; rintro e w9 ⟨rfl, hb9⟩; exact ⟨_, rfl, .mk hb9 () rfl trivial⟩)
        rintro ⟨⟩
        (try simp only [Act.put, List.setIfInBounds_toArray, List.set_cons_zero, List.set_cons_succ])
        first
          | (refine ty_skip rfl rfl ?_; (try simp only [Act.put, List.setIfInBounds_toArray, List.set_cons_zero, List.set_cons_succ]))
          | (refine ty_pure rfl rfl rfl rfl ?_; apply Exists.intro; refine ⟨fun wq hq hk => ?_, ?_⟩
             · have f0 := hq.cell C16'; have f1 := hq.cell C7'; simp only [pureAt]; go_simp; (try simp only [↓IntWalk.iteOmega]); (try go_bits); (try simp only [pureUpon]); (first | done | exact ⟨rfl, rfl⟩ | exact ⟨trivial, rfl⟩ | rfl)
             (try simp only [Act.put, List.setIfInBounds_toArray, List.set_cons_zero, List.set_cons_succ]))
        refine ty_rel rfl rfl _ rfl rfl (fun wq hq hk => ?_) ?_
        · have f0 := hq.cell C16'; have f1 := hq.cell C7'; simp only [relAt]; go_simp; (try simp only [relUpon]); (go_at_call 112; refine (Ru2.out _).mono ?_; rintro e w9 ⟨rfl, hb9⟩; exact ⟨_, rfl, .mk hb9 () rfl trivial⟩)
        rintro ⟨⟩
        (try simp only [Act.put, List.setIfInBounds_toArray, List.set_cons_zero, List.set_cons_succ])
        first
          | (refine ty_skip rfl rfl ?_; (try simp only [Act.put, List.setIfInBounds_toArray, List.set_cons_zero, List.set_cons_succ]))
          | (refine ty_pure rfl rfl rfl rfl ?_; apply Exists.intro; refine ⟨fun wq hq hk => ?_, ?_⟩
             · have f0 := hq.cell C16'; have f1 := hq.cell C7'; simp only [pureAt]; go_simp; (try simp only [↓IntWalk.iteOmega]); (try go_bits); (try simp only [pureUpon]); (first | done | exact ⟨rfl, rfl⟩ | exact ⟨trivial, rfl⟩ | rfl)
             (try simp only [Act.put, List.setIfInBounds_toArray, List.set_cons_zero, List.set_cons_succ]))
        first
          | (refine ty_skip rfl rfl ?_; (try simp only [Act.put, List.setIfInBounds_toArray, List.set_cons_zero, List.set_cons_succ]))
          | (refine ty_pure rfl rfl rfl rfl ?_; apply Exists.intro; refine ⟨fun wq hq hk => ?_, ?_⟩
             · have f0 := hq.cell C16'; have f1 := hq.cell C7'; simp only [pureAt]; go_simp; (try simp only [↓IntWalk.iteOmega]); (try go_bits); (try simp only [pureUpon]); (first | done | exact ⟨rfl, rfl⟩ | exact ⟨trivial, rfl⟩ | rfl)
             (try simp only [Act.put, List.setIfInBounds_toArray, List.set_cons_zero, List.set_cons_succ]))
        first
          | (refine ty_skip rfl rfl ?_; (try simp only [Act.put, List.setIfInBounds_toArray, List.set_cons_zero, List.set_cons_succ]))
          | (refine ty_pure rfl rfl rfl rfl ?_; apply Exists.intro; refine ⟨fun wq hq hk => ?_, ?_⟩
             · have f0 := hq.cell C16'; have f1 := hq.cell C7'; simp only [pureAt]; go_simp; (try simp only [↓IntWalk.iteOmega]); (try go_bits); (try simp only [pureUpon]); (first | done | exact ⟨rfl, rfl⟩ | exact ⟨trivial, rfl⟩ | rfl)
             (try simp only [Act.put, List.setIfInBounds_toArray, List.set_cons_zero, List.set_cons_succ]))
        first
          | (refine ty_skip rfl rfl ?_; (try simp only [Act.put, List.setIfInBounds_toArray, List.set_cons_zero, List.set_cons_succ]))
          | (refine ty_pure rfl rfl rfl rfl ?_; apply Exists.intro; refine ⟨fun wq hq hk => ?_, ?_⟩
             · have f0 := hq.cell C16'; have f1 := hq.cell C7'; simp only [pureAt]; go_simp; (try simp only [↓IntWalk.iteOmega]); (try go_bits); (try simp only [pureUpon]); (first | done | exact ⟨rfl, rfl⟩ | exact ⟨trivial, rfl⟩ | rfl)
             (try simp only [Act.put, List.setIfInBounds_toArray, List.set_cons_zero, List.set_cons_succ]))
        first
          | (refine ty_skip rfl rfl ?_; (try simp only [Act.put, List.setIfInBounds_toArray, List.set_cons_zero, List.set_cons_succ]))
          | (refine ty_pure rfl rfl rfl rfl ?_; apply Exists.intro; refine ⟨fun wq hq hk => ?_, ?_⟩
             · have f0 := hq.cell C16'; have f1 := hq.cell C7'; simp only [pureAt]; go_simp; (try simp only [↓IntWalk.iteOmega]); (try go_bits); (try simp only [pureUpon]); (first | done | exact ⟨rfl, rfl⟩ | exact ⟨trivial, rfl⟩ | rfl)
             (try simp only [Act.put, List.setIfInBounds_toArray, List.set_cons_zero, List.set_cons_succ]))
        first
          | (refine ty_skip rfl rfl ?_; (try simp only [Act.put, List.setIfInBounds_toArray, List.set_cons_zero, List.set_cons_succ]))
          | (refine ty_pure rfl rfl rfl rfl ?_; apply Exists.intro; refine ⟨fun wq hq hk => ?_, ?_⟩
             · have f0 := hq.cell C16'; have f1 := hq.cell C7'; simp only [pureAt]; go_simp; (try simp only [↓IntWalk.iteOmega]); (try go_bits); (try simp only [pureUpon]); (first | done | exact ⟨rfl, rfl⟩ | exact ⟨trivial, rfl⟩ | rfl)
             (try simp only [Act.put, List.setIfInBounds_toArray, List.set_cons_zero, List.set_cons_succ]))
        first
          | (refine ty_skip rfl rfl ?_; (try simp only [Act.put, List.setIfInBounds_toArray, List.set_cons_zero, List.set_cons_succ]))
          | (refine ty_pure rfl rfl rfl rfl ?_; apply Exists.intro; refine ⟨fun wq hq hk => ?_, ?_⟩
             · have f0 := hq.cell C16'; have f1 := hq.cell C7'; simp only [pureAt]; go_simp; (try simp only [↓IntWalk.iteOmega]); (try go_bits); (try simp only [pureUpon]); (first | done | exact ⟨rfl, rfl⟩ | exact ⟨trivial, rfl⟩ | rfl)
             (try simp only [Act.put, List.setIfInBounds_toArray, List.set_cons_zero, List.set_cons_succ]))
        first
          | (refine ty_skip rfl rfl ?_; (try simp only [Act.put, List.setIfInBounds_toArray, List.set_cons_zero, List.set_cons_succ]))
          | (refine ty_pure rfl rfl rfl rfl ?_; apply Exists.intro; refine ⟨fun wq hq hk => ?_, ?_⟩
             · have f0 := hq.cell C16'; have f1 := hq.cell C7'; simp only [pureAt]; go_simp; (try simp only [↓IntWalk.iteOmega]); (try go_bits); (try simp only [pureUpon]); (first | done | exact ⟨rfl, rfl⟩ | exact ⟨trivial, rfl⟩ | rfl)
             (try simp only [Act.put, List.setIfInBounds_toArray, List.set_cons_zero, List.set_cons_succ]))
        first
          | (refine ty_skip rfl rfl ?_; (try simp only [Act.put, List.setIfInBounds_toArray, List.set_cons_zero, List.set_cons_succ]))
          | (refine ty_pure rfl rfl rfl rfl ?_; apply Exists.intro; refine ⟨fun wq hq hk => ?_, ?_⟩
             · have f0 := hq.cell C16'; have f1 := hq.cell C7'; simp only [pureAt]; go_simp; (try simp only [↓IntWalk.iteOmega]); (try go_bits); (try simp only [pureUpon]); (first | done | exact ⟨rfl, rfl⟩ | exact ⟨trivial, rfl⟩ | rfl)
             (try simp only [Act.put, List.setIfInBounds_toArray, List.set_cons_zero, List.set_cons_succ]))
        first
          | (refine ty_skip rfl rfl ?_; (try simp only [Act.put, List.setIfInBounds_toArray, List.set_cons_zero, List.set_cons_succ]))
          | (refine ty_pure rfl rfl rfl rfl ?_; apply Exists.intro; refine ⟨fun wq hq hk => ?_, ?_⟩
             · have f0 := hq.cell C16'; have f1 := hq.cell C7'; simp only [pureAt]; go_simp; (try simp only [↓IntWalk.iteOmega]); (try go_bits); (try simp only [pureUpon]); (first | done | exact ⟨rfl, rfl⟩ | exact ⟨trivial, rfl⟩ | rfl)
             (try simp only [Act.put, List.setIfInBounds_toArray, List.set_cons_zero, List.set_cons_succ]))
        first
          | (refine ty_skip rfl rfl ?_; (try simp only [Act.put, List.setIfInBounds_toArray, List.set_cons_zero, List.set_cons_succ]))
          | (refine ty_pure rfl rfl rfl rfl ?_; apply Exists.intro; refine ⟨fun wq hq hk => ?_, ?_⟩
             · have f0 := hq.cell C16'; have f1 := hq.cell C7'; simp only [pureAt]; go_simp; (try simp only [↓IntWalk.iteOmega]); (try go_bits); (try simp only [pureUpon]); (first | done | exact ⟨rfl, rfl⟩ | exact ⟨trivial, rfl⟩ | rfl)
             (try simp only [Act.put, List.setIfInBounds_toArray, List.set_cons_zero, List.set_cons_succ]))
        refine ty_rel rfl rfl _ rfl rfl (fun wq hq hk => ?_) ?_
        · have f0 := hq.cell C16'; have f1 := hq.cell C7'; simp only [relAt]; go_simp; (try simp only [relUpon]); (go_at_call 112; refine (Ru3.out _).mono ?_; rintro e w9 ⟨rfl, hb9⟩; exact ⟨_, rfl, .mk hb9 () rfl trivial⟩)
        rintro ⟨⟩
        (try simp only [Act.put, List.setIfInBounds_toArray, List.set_cons_zero, List.set_cons_succ])
        first
          | (refine ty_skip rfl rfl ?_; (try simp only [Act.put, List.setIfInBounds_toArray, List.set_cons_zero, List.set_cons_succ]))
          | (refine ty_pure rfl rfl rfl rfl ?_; apply Exists.intro; refine ⟨fun wq hq hk => ?_, ?_⟩
             · have f0 := hq.cell C16'; have f1 := hq.cell C7'; simp only [pureAt]; go_simp; (try simp only [↓IntWalk.iteOmega]); (try go_bits); (try simp only [pureUpon]); (first | done | exact ⟨rfl, rfl⟩ | exact ⟨trivial, rfl⟩ | rfl)
             (try simp only [Act.put, List.setIfInBounds_toArray, List.set_cons_zero, List.set_cons_succ]))
        refine ty_rel rfl rfl _ rfl rfl (fun wq hq hk => ?_) ?_
        · have f0 := hq.cell C16'; have f1 := hq.cell C7'; simp only [relAt]; go_simp; (try simp only [relUpon]); (go_at_call 112; refine (Ru4.out _).mono ?_; rintro e w9 ⟨rfl, hb9⟩; exact ⟨_, rfl, .mk hb9 () rfl trivial⟩)
        rintro ⟨⟩
        (try simp only [Act.put, List.setIfInBounds_toArray, List.set_cons_zero, List.set_cons_succ])
        first
          | (refine ty_skip rfl rfl ?_; (try simp only [Act.put, List.setIfInBounds_toArray, List.set_cons_zero, List.set_cons_succ]))
          | (refine ty_pure rfl rfl rfl rfl ?_; apply Exists.intro; refine ⟨fun wq hq hk => ?_, ?_⟩
             · have f0 := hq.cell C16'; have f1 := hq.cell C7'; simp only [pureAt]; go_simp; (try simp only [↓IntWalk.iteOmega]); (try go_bits); (try simp only [pureUpon]); (first | done | exact ⟨rfl, rfl⟩ | exact ⟨trivial, rfl⟩ | rfl)
             (try simp only [Act.put, List.setIfInBounds_toArray, List.set_cons_zero, List.set_cons_succ]))
        first
          | (refine ty_skip rfl rfl ?_; (try simp only [Act.put, List.setIfInBounds_toArray, List.set_cons_zero, List.set_cons_succ]))
          | (refine ty_pure rfl rfl rfl rfl ?_; apply Exists.intro; refine ⟨fun wq hq hk => ?_, ?_⟩
             · have f0 := hq.cell C16'; have f1 := hq.cell C7'; simp only [pureAt]; go_simp; (try simp only [↓IntWalk.iteOmega]); (try go_bits); (try simp only [pureUpon]); (first | done | exact ⟨rfl, rfl⟩ | exact ⟨trivial, rfl⟩ | rfl)
             (try simp only [Act.put, List.setIfInBounds_toArray, List.set_cons_zero, List.set_cons_succ]))
        first
          | (refine ty_skip rfl rfl ?_; (try simp only [Act.put, List.setIfInBounds_toArray, List.set_cons_zero, List.set_cons_succ]))
          | (refine ty_pure rfl rfl rfl rfl ?_; apply Exists.intro; refine ⟨fun wq hq hk => ?_, ?_⟩
             · have f0 := hq.cell C16'; have f1 := hq.cell C7'; simp only [pureAt]; go_simp; (try simp only [↓IntWalk.iteOmega]); (try go_bits); (try simp only [pureUpon]); (first | done | exact ⟨rfl, rfl⟩ | exact ⟨trivial, rfl⟩ | rfl)
             (try simp only [Act.put, List.setIfInBounds_toArray, List.set_cons_zero, List.set_cons_succ]))
        first
          | (refine ty_skip rfl rfl ?_; (try simp only [Act.put, List.setIfInBounds_toArray, List.set_cons_zero, List.set_cons_succ]))
          | (refine ty_pure rfl rfl rfl rfl ?_; apply Exists.intro; refine ⟨fun wq hq hk => ?_, ?_⟩
             · have f0 := hq.cell C16'; have f1 := hq.cell C7'; simp only [pureAt]; go_simp; (try simp only [↓IntWalk.iteOmega]); (try go_bits); (try simp only [pureUpon]); (first | done | exact ⟨rfl, rfl⟩ | exact ⟨trivial, rfl⟩ | rfl)
             (try simp only [Act.put, List.setIfInBounds_toArray, List.set_cons_zero, List.set_cons_succ]))
        first
          | (refine ty_skip rfl rfl ?_; (try simp only [Act.put, List.setIfInBounds_toArray, List.set_cons_zero, List.set_cons_succ]))
          | (refine ty_pure rfl rfl rfl rfl ?_; apply Exists.intro; refine ⟨fun wq hq hk => ?_, ?_⟩
             · have f0 := hq.cell C16'; have f1 := hq.cell C7'; simp only [pureAt]; go_simp; (try simp only [↓IntWalk.iteOmega]); (try go_bits); (try simp only [pureUpon]); (first | done | exact ⟨rfl, rfl⟩ | exact ⟨trivial, rfl⟩ | rfl)
             (try simp only [Act.put, List.setIfInBounds_toArray, List.set_cons_zero, List.set_cons_succ]))
        refine ty_nil ?_
        simp only [List.drop_succ_cons, List.drop_zero]
        intro W5 hw5 hΓ
        have V5 := V3.below hw5.out
        clear hΓ hw5 V3 C16' C7' hbl3
        have hc0 : W5.cell? ⟨w.heap.size + 2, i, none⟩ = some (.int .u32 0) := by
          rw [V5.B2.cell, ← HW.out]; exact cellsW_next W 64 (by rw [HW.out]; exact hil)
        have hf0 := V5.B2.frozen i
        have hbl := V5.B2.lt
        go_upto_region 11 with fail
        refine wp_absQ (fun W' => HAt w W' h0 h1 h2 h3 h4 h5 h6 h7 (W ++ [x]) kb) (V5.set i x HW.out hil) (fun W4 V4 => ?_)
        clear V5 hc0 hf0 hbl
        clear I15 I2 I16 I7 K15 K2 K16 K7 lx15 lx2 lx16 lx7 lu1 Ru1 lu2 Ru2 lu3 Ru3 lu4 Ru4 lv1 ev1 lv2 ev2 lv3 ev3 ly1 ey1 ly2 ey2 lv4 ev4 lv5 ev5 lv6 ev6 ex
        have HBs := V4.HB.size
        have hkc : W4.cell? ⟨kb, i, none⟩ = some (.int .u32 kk) := by rw [← HKK.out, ← HK.out i hil]; exact V4.HB.cell (p := ⟨kb, i, none⟩) hkb
        have hwc : W4.cell? ⟨w.heap.size + 2, i, none⟩ = some (.int .u32 x) := by
          rw [V4.B2.cell, cellsW_get _ _ _ (by rw [List.length_append, HW.out]; show i < i + 1; omega)]
          rw [List.getD_eq_getElem?_getD, List.getElem?_append_right (by rw [HW.out]; exact Nat.le_refl _), HW.out, Nat.sub_self]; rfl
        have hkbl : kb < W4.heap.size := by omega
        have hwbl := V4.B2.lt
        obtain ⟨r1, hr1⟩ : ∃ q, rotr e 6 = q := ⟨_, rfl⟩
        have lr1 : r1 < 4294967296 := by rw [← hr1]; exact rotr_lt _ _ (by assumption)
        have Rr1 := Lib.hid (fun W => right_any e 6 W (by assumption) (by decide) (by decide))
        rw [hr1] at Rr1
        obtain ⟨r2, hr2⟩ : ∃ q, rotr e 11 = q := ⟨_, rfl⟩
        have lr2 : r2 < 4294967296 := by rw [← hr2]; exact rotr_lt _ _ (by assumption)
        have Rr2 := Lib.hid (fun W => right_any e 11 W (by assumption) (by decide) (by decide))
        rw [hr2] at Rr2
        obtain ⟨r3, hr3⟩ : ∃ q, rotr e 25 = q := ⟨_, rfl⟩
        have lr3 : r3 < 4294967296 := by rw [← hr3]; exact rotr_lt _ _ (by assumption)
        have Rr3 := Lib.hid (fun W => right_any e 25 W (by assumption) (by decide) (by decide))
        rw [hr3] at Rr3
        obtain ⟨q1, hq1⟩ : ∃ q, r1 ^^^ r2 = q := ⟨_, rfl⟩
        have lq1 : q1 < 4294967296 := by rw [← hq1]; exact xor32 _ _ (by assumption) (by assumption)
        have eq1 : bits .xor .u32 (r1 : Int) (r2 : Int) = (q1 : Int) := by rw [u32_xor_nat _ _ (by assumption) (by assumption), hq1]
        obtain ⟨q2, hq2⟩ : ∃ q, q1 ^^^ r3 = q := ⟨_, rfl⟩
        have lq2 : q2 < 4294967296 := by rw [← hq2]; exact xor32 _ _ (by assumption) (by assumption)
        have eq2 : bits .xor .u32 (q1 : Int) (r3 : Int) = (q2 : Int) := by rw [u32_xor_nat _ _ (by assumption) (by assumption), hq2]
        obtain ⟨p1, hp1⟩ : ∃ q, add32 o q2 = q := ⟨_, rfl⟩
        have lp1 : p1 < 4294967296 := by rw [← hp1]; exact add32_lt _ _
        have ep1 : ((o : Int) + (q2 : Int)) % 4294967296 = (p1 : Int) := by rw [add32_int, hp1]
        obtain ⟨x1, hx1⟩ : ∃ q, f ^^^ g = q := ⟨_, rfl⟩
        have lx1 : x1 < 4294967296 := by rw [← hx1]; exact xor32 _ _ (by assumption) (by assumption)
        have ex1 : bits .xor .u32 (f : Int) (g : Int) = (x1 : Int) := by rw [u32_xor_nat _ _ (by assumption) (by assumption), hx1]
        obtain ⟨x2, hx2⟩ : ∃ q, e &&& x1 = q := ⟨_, rfl⟩
        have lx2 : x2 < 4294967296 := by rw [← hx2]; exact and32 _ _ (by assumption)
        have ex2 : bits .and .u32 (e : Int) (x1 : Int) = (x2 : Int) := by rw [u32_and_nat _ _ (by assumption) (by assumption), hx2]
        obtain ⟨x3, hx3⟩ : ∃ q, g ^^^ x2 = q := ⟨_, rfl⟩
        have lx3 : x3 < 4294967296 := by rw [← hx3]; exact xor32 _ _ (by assumption) (by assumption)
        have ex3 : bits .xor .u32 (g : Int) (x2 : Int) = (x3 : Int) := by rw [u32_xor_nat _ _ (by assumption) (by assumption), hx3]
        obtain ⟨p2, hp2⟩ : ∃ q, add32 p1 x3 = q := ⟨_, rfl⟩
        have lp2 : p2 < 4294967296 := by rw [← hp2]; exact add32_lt _ _
        have ep2 : ((p1 : Int) + (x3 : Int)) % 4294967296 = (p2 : Int) := by rw [add32_int, hp2]
        obtain ⟨p3, hp3⟩ : ∃ q, add32 p2 kk = q := ⟨_, rfl⟩
        have lp3 : p3 < 4294967296 := by rw [← hp3]; exact add32_lt _ _
        have ep3 : ((p2 : Int) + (kk : Int)) % 4294967296 = (p3 : Int) := by rw [add32_int, hp3]
        obtain ⟨tt, htt⟩ : ∃ q, add32 p3 x = q := ⟨_, rfl⟩
        have ltt : tt < 4294967296 := by rw [← htt]; exact add32_lt _ _
        have ett : ((p3 : Int) + (x : Int)) % 4294967296 = (tt : Int) := by rw [add32_int, htt]
        obtain ⟨r4, hr4⟩ : ∃ q, rotr a 2 = q := ⟨_, rfl⟩
        have lr4 : r4 < 4294967296 := by rw [← hr4]; exact rotr_lt _ _ (by assumption)
        have Rr4 := Lib.hid (fun W => right_any a 2 W (by assumption) (by decide) (by decide))
        rw [hr4] at Rr4
        obtain ⟨r5, hr5⟩ : ∃ q, rotr a 13 = q := ⟨_, rfl⟩
        have lr5 : r5 < 4294967296 := by rw [← hr5]; exact rotr_lt _ _ (by assumption)
        have Rr5 := Lib.hid (fun W => right_any a 13 W (by assumption) (by decide) (by decide))
        rw [hr5] at Rr5
        obtain ⟨r6, hr6⟩ : ∃ q, rotr a 22 = q := ⟨_, rfl⟩
        have lr6 : r6 < 4294967296 := by rw [← hr6]; exact rotr_lt _ _ (by assumption)
        have Rr6 := Lib.hid (fun W => right_any a 22 W (by assumption) (by decide) (by decide))
        rw [hr6] at Rr6
        obtain ⟨q3, hq3⟩ : ∃ q, r4 ^^^ r5 = q := ⟨_, rfl⟩
        have lq3 : q3 < 4294967296 := by rw [← hq3]; exact xor32 _ _ (by assumption) (by assumption)
        have eq3 : bits .xor .u32 (r4 : Int) (r5 : Int) = (q3 : Int) := by rw [u32_xor_nat _ _ (by assumption) (by assumption), hq3]
        obtain ⟨q4, hq4⟩ : ∃ q, q3 ^^^ r6 = q := ⟨_, rfl⟩
        have lq4 : q4 < 4294967296 := by rw [← hq4]; exact xor32 _ _ (by assumption) (by assumption)
        have eq4 : bits .xor .u32 (q3 : Int) (r6 : Int) = (q4 : Int) := by rw [u32_xor_nat _ _ (by assumption) (by assumption), hq4]
        obtain ⟨n1, hn1⟩ : ∃ q, a &&& b = q := ⟨_, rfl⟩
        have ln1 : n1 < 4294967296 := by rw [← hn1]; exact and32 _ _ (by assumption)
        have en1 : bits .and .u32 (a : Int) (b : Int) = (n1 : Int) := by rw [u32_and_nat _ _ (by assumption) (by assumption), hn1]
        obtain ⟨n2, hn2⟩ : ∃ q, a ||| b = q := ⟨_, rfl⟩
        have ln2 : n2 < 4294967296 := by rw [← hn2]; exact or32 _ _ (by assumption) (by assumption)
        have en2 : bits .or .u32 (a : Int) (b : Int) = (n2 : Int) := by rw [u32_or_nat _ _ (by assumption) (by assumption), hn2]
        obtain ⟨n3, hn3⟩ : ∃ q, c &&& n2 = q := ⟨_, rfl⟩
        have ln3 : n3 < 4294967296 := by rw [← hn3]; exact and32 _ _ (by assumption)
        have en3 : bits .and .u32 (c : Int) (n2 : Int) = (n3 : Int) := by rw [u32_and_nat _ _ (by assumption) (by assumption), hn3]
        obtain ⟨n4, hn4⟩ : ∃ q, n1 ||| n3 = q := ⟨_, rfl⟩
        have ln4 : n4 < 4294967296 := by rw [← hn4]; exact or32 _ _ (by assumption) (by assumption)
        have en4 : bits .or .u32 (n1 : Int) (n3 : Int) = (n4 : Int) := by rw [u32_or_nat _ _ (by assumption) (by assumption), hn4]
        obtain ⟨uu, huu⟩ : ∃ q, add32 q4 n4 = q := ⟨_, rfl⟩
        have luu : uu < 4294967296 := by rw [← huu]; exact add32_lt _ _
        have euu : ((q4 : Int) + (n4 : Int)) % 4294967296 = (uu : Int) := by rw [add32_int, huu]
        obtain ⟨ee, hee⟩ : ∃ q, add32 d tt = q := ⟨_, rfl⟩
        have lee : ee < 4294967296 := by rw [← hee]; exact add32_lt _ _
        have eee : ((d : Int) + (tt : Int)) % 4294967296 = (ee : Int) := by rw [add32_int, hee]
        obtain ⟨aa, haa⟩ : ∃ q, add32 tt uu = q := ⟨_, rfl⟩
        have laa : aa < 4294967296 := by rw [← haa]; exact add32_lt _ _
        have eaa : ((tt : Int) + (uu : Int)) % 4294967296 = (aa : Int) := by rw [add32_int, haa]
        have hnext : roundsGo s.data.toList gk (i + 1) (W ++ [x]) ⟨aa, a, b, c, ee, e, f, g⟩ = VF := by
          rw [← HGO.out]
          congr 1
          show _ = roundL ⟨a, b, c, d, e, f, g, o⟩ kk x
          unfold roundL tL uL Sig1 Sig0 chL majL
          simp only
          rw [hr1, hr2, hr3, hq1, hq2, hp1, hx1, hx2, hx3, hp2, hp3, htt, hr4, hr5, hr6, hq3, hq4, hn1, hn2, hn3, hn4, huu, hee, haa]
        have HNEXT := Lib.hid hnext
        clear hnext hr1 hr2 hr3 hq1 hq2 hp1 hx1 hx2 hx3 hp2 hp3 htt hr4 hr5 hr6 hq3 hq4 hn1 hn2 hn3 hn4 huu hee haa
        refine wp_region_typed 28 (fun k => match k with  | _ => []) (fun k => match k with  | _ => false) (fun k => match k with | 2 => some ⟨(Unit), (()), (fun _ => .int .u32 r1), (fun _ _ => True), (fun _ _ _ h _ => h)⟩ | 4 => some ⟨(Unit), (()), (fun _ => .int .u32 r2), (fun _ _ => True), (fun _ _ _ h _ => h)⟩ | 7 => some ⟨(Unit), (()), (fun _ => .int .u32 r3), (fun _ _ => True), (fun _ _ _ h _ => h)⟩ | _ => none) (by kernel_rfl) (by kernel_rfl) (by intro d0 v0 c0 a0 w0 h0; first | (cases d0 <;> exact h0) | exact hP _ _ _ _ _ h0) ?_
        rw [show List.range 28 = [0, 1, 2, 3, 4, 5, 6, 7, 8, 9, 10, 11, 12, 13, 14, 15, 16, 17, 18, 19, 20, 21, 22, 23, 24, 25, 26, 27] from rfl]
        first
          | (refine ty_skip rfl rfl ?_; (try simp only [Act.put, List.setIfInBounds_toArray, List.set_cons_zero, List.set_cons_succ]))
          | (refine ty_pure rfl rfl rfl rfl ?_; apply Exists.intro; refine ⟨fun wq hq hk => ?_, ?_⟩
             · have f0 := hq.cell hkc; have f1 := hq.cell hwc; simp only [pureAt]; go_simp; (try simp only [↓IntWalk.iteOmega]); (try go_bits); (try simp only [pureUpon]); (first | done | exact ⟨rfl, rfl⟩ | exact ⟨trivial, rfl⟩ | rfl)
             (try simp only [Act.put, List.setIfInBounds_toArray, List.set_cons_zero, List.set_cons_succ]))
        first
          | (refine ty_skip rfl rfl ?_; (try simp only [Act.put, List.setIfInBounds_toArray, List.set_cons_zero, List.set_cons_succ]))
          | (refine ty_pure rfl rfl rfl rfl ?_; apply Exists.intro; refine ⟨fun wq hq hk => ?_, ?_⟩
             · have f0 := hq.cell hkc; have f1 := hq.cell hwc; simp only [pureAt]; go_simp; (try simp only [↓IntWalk.iteOmega]); (try go_bits); (try simp only [pureUpon]); (first | done | exact ⟨rfl, rfl⟩ | exact ⟨trivial, rfl⟩ | rfl)
             (try simp only [Act.put, List.setIfInBounds_toArray, List.set_cons_zero, List.set_cons_succ]))
        refine ty_rel rfl rfl _ rfl rfl (fun wq hq hk => ?_) ?_
        · have f0 := hq.cell hkc; have f1 := hq.cell hwc; simp only [relAt]; go_simp; (try simp only [relUpon]); (go_at_call 112; refine (Rr1.out _).mono ?_; rintro e w9 ⟨rfl, hb9⟩; exact ⟨_, rfl, .mk hb9 () rfl trivial⟩)
        rintro ⟨⟩
        (try simp only [Act.put, List.setIfInBounds_toArray, List.set_cons_zero, List.set_cons_succ])
        first
          | (refine ty_skip rfl rfl ?_; (try simp only [Act.put, List.setIfInBounds_toArray, List.set_cons_zero, List.set_cons_succ]))
          | (refine ty_pure rfl rfl rfl rfl ?_; apply Exists.intro; refine ⟨fun wq hq hk => ?_, ?_⟩
             · have f0 := hq.cell hkc; have f1 := hq.cell hwc; simp only [pureAt]; go_simp; (try simp only [↓IntWalk.iteOmega]); (try go_bits); (try simp only [pureUpon]); (first | done | exact ⟨rfl, rfl⟩ | exact ⟨trivial, rfl⟩ | rfl)
             (try simp only [Act.put, List.setIfInBounds_toArray, List.set_cons_zero, List.set_cons_succ]))
        refine ty_rel rfl rfl _ rfl rfl (fun wq hq hk => ?_) ?_
        · have f0 := hq.cell hkc; have f1 := hq.cell hwc; simp only [relAt]; go_simp; (try simp only [relUpon]); (go_at_call 112; refine (Rr2.out _).mono ?_; rintro e w9 ⟨rfl, hb9⟩; exact ⟨_, rfl, .mk hb9 () rfl trivial⟩)
        rintro ⟨⟩
        (try simp only [Act.put, List.setIfInBounds_toArray, List.set_cons_zero, List.set_cons_succ])
        first
          | (refine ty_skip rfl rfl ?_; (try simp only [Act.put, List.setIfInBounds_toArray, List.set_cons_zero, List.set_cons_succ]))
          | (refine ty_pure rfl rfl rfl rfl ?_; apply Exists.intro; refine ⟨fun wq hq hk => ?_, ?_⟩
             · have f0 := hq.cell hkc; have f1 := hq.cell hwc; simp only [pureAt]; go_simp; (try simp only [↓IntWalk.iteOmega]); (try go_bits); (try simp only [pureUpon]); (first | done | exact ⟨rfl, rfl⟩ | exact ⟨trivial, rfl⟩ | rfl)
             (try simp only [Act.put, List.setIfInBounds_toArray, List.set_cons_zero, List.set_cons_succ]))
        first
          | (refine ty_skip rfl rfl ?_; (try simp only [Act.put, List.setIfInBounds_toArray, List.set_cons_zero, List.set_cons_succ]))
          | (refine ty_pure rfl rfl rfl rfl ?_; apply Exists.intro; refine ⟨fun wq hq hk => ?_, ?_⟩
             · have f0 := hq.cell hkc; have f1 := hq.cell hwc; simp only [pureAt]; go_simp; (try simp only [↓IntWalk.iteOmega]); (try go_bits); (try simp only [pureUpon]); (first | done | exact ⟨rfl, rfl⟩ | exact ⟨trivial, rfl⟩ | rfl)
             (try simp only [Act.put, List.setIfInBounds_toArray, List.set_cons_zero, List.set_cons_succ]))
        refine ty_rel rfl rfl _ rfl rfl (fun wq hq hk => ?_) ?_
        · have f0 := hq.cell hkc; have f1 := hq.cell hwc; simp only [relAt]; go_simp; (try simp only [relUpon]); (go_at_call 112; refine (Rr3.out _).mono ?_; rintro e w9 ⟨rfl, hb9⟩; exact ⟨_, rfl, .mk hb9 () rfl trivial⟩)
        rintro ⟨⟩
        (try simp only [Act.put, List.setIfInBounds_toArray, List.set_cons_zero, List.set_cons_succ])
        first
          | (refine ty_skip rfl rfl ?_; (try simp only [Act.put, List.setIfInBounds_toArray, List.set_cons_zero, List.set_cons_succ]))
          | (refine ty_pure rfl rfl rfl rfl ?_; apply Exists.intro; refine ⟨fun wq hq hk => ?_, ?_⟩
             · have f0 := hq.cell hkc; have f1 := hq.cell hwc; simp only [pureAt]; go_simp; (try simp only [↓IntWalk.iteOmega]); (try go_bits); (try simp only [pureUpon]); (first | done | exact ⟨rfl, rfl⟩ | exact ⟨trivial, rfl⟩ | rfl)
             (try simp only [Act.put, List.setIfInBounds_toArray, List.set_cons_zero, List.set_cons_succ]))
        first
          | (refine ty_skip rfl rfl ?_; (try simp only [Act.put, List.setIfInBounds_toArray, List.set_cons_zero, List.set_cons_succ]))
          | (refine ty_pure rfl rfl rfl rfl ?_; apply Exists.intro; refine ⟨fun wq hq hk => ?_, ?_⟩
             · have f0 := hq.cell hkc; have f1 := hq.cell hwc; simp only [pureAt]; go_simp; (try simp only [↓IntWalk.iteOmega]); (try go_bits); (try simp only [pureUpon]); (first | done | exact ⟨rfl, rfl⟩ | exact ⟨trivial, rfl⟩ | rfl)
             (try simp only [Act.put, List.setIfInBounds_toArray, List.set_cons_zero, List.set_cons_succ]))
        first
          | (refine ty_skip rfl rfl ?_; (try simp only [Act.put, List.setIfInBounds_toArray, List.set_cons_zero, List.set_cons_succ]))
          | (refine ty_pure rfl rfl rfl rfl ?_; apply Exists.intro; refine ⟨fun wq hq hk => ?_, ?_⟩
             · have f0 := hq.cell hkc; have f1 := hq.cell hwc; simp only [pureAt]; go_simp; (try simp only [↓IntWalk.iteOmega]); (try go_bits); (try simp only [pureUpon]); (first | done | exact ⟨rfl, rfl⟩ | exact ⟨trivial, rfl⟩ | rfl)
             (try simp only [Act.put, List.setIfInBounds_toArray, List.set_cons_zero, List.set_cons_succ]))
        first
          | (refine ty_skip rfl rfl ?_; (try simp only [Act.put, List.setIfInBounds_toArray, List.set_cons_zero, List.set_cons_succ]))
          | (refine ty_pure rfl rfl rfl rfl ?_; apply Exists.intro; refine ⟨fun wq hq hk => ?_, ?_⟩
             · have f0 := hq.cell hkc; have f1 := hq.cell hwc; simp only [pureAt]; go_simp; (try simp only [↓IntWalk.iteOmega]); (try go_bits); (try simp only [pureUpon]); (first | done | exact ⟨rfl, rfl⟩ | exact ⟨trivial, rfl⟩ | rfl)
             (try simp only [Act.put, List.setIfInBounds_toArray, List.set_cons_zero, List.set_cons_succ]))
        first
          | (refine ty_skip rfl rfl ?_; (try simp only [Act.put, List.setIfInBounds_toArray, List.set_cons_zero, List.set_cons_succ]))
          | (refine ty_pure rfl rfl rfl rfl ?_; apply Exists.intro; refine ⟨fun wq hq hk => ?_, ?_⟩
             · have f0 := hq.cell hkc; have f1 := hq.cell hwc; simp only [pureAt]; go_simp; (try simp only [↓IntWalk.iteOmega]); (try go_bits); (try simp only [pureUpon]); (first | done | exact ⟨rfl, rfl⟩ | exact ⟨trivial, rfl⟩ | rfl)
             (try simp only [Act.put, List.setIfInBounds_toArray, List.set_cons_zero, List.set_cons_succ]))
        first
          | (refine ty_skip rfl rfl ?_; (try simp only [Act.put, List.setIfInBounds_toArray, List.set_cons_zero, List.set_cons_succ]))
          | (refine ty_pure rfl rfl rfl rfl ?_; apply Exists.intro; refine ⟨fun wq hq hk => ?_, ?_⟩
             · have f0 := hq.cell hkc; have f1 := hq.cell hwc; simp only [pureAt]; go_simp; (try simp only [↓IntWalk.iteOmega]); (try go_bits); (try simp only [pureUpon]); (first | done | exact ⟨rfl, rfl⟩ | exact ⟨trivial, rfl⟩ | rfl)
             (try simp only [Act.put, List.setIfInBounds_toArray, List.set_cons_zero, List.set_cons_succ]))
        first
          | (refine ty_skip rfl rfl ?_; (try simp only [Act.put, List.setIfInBounds_toArray, List.set_cons_zero, List.set_cons_succ]))
          | (refine ty_pure rfl rfl rfl rfl ?_; apply Exists.intro; refine ⟨fun wq hq hk => ?_, ?_⟩
             · have f0 := hq.cell hkc; have f1 := hq.cell hwc; simp only [pureAt]; go_simp; (try simp only [↓IntWalk.iteOmega]); (try go_bits); (try simp only [pureUpon]); (first | done | exact ⟨rfl, rfl⟩ | exact ⟨trivial, rfl⟩ | rfl)
             (try simp only [Act.put, List.setIfInBounds_toArray, List.set_cons_zero, List.set_cons_succ]))
        first
          | (refine ty_skip rfl rfl ?_; (try simp only [Act.put, List.setIfInBounds_toArray, List.set_cons_zero, List.set_cons_succ]))
          | (refine ty_pure rfl rfl rfl rfl ?_; apply Exists.intro; refine ⟨fun wq hq hk => ?_, ?_⟩
             · have f0 := hq.cell hkc; have f1 := hq.cell hwc; simp only [pureAt]; go_simp; (try simp only [↓IntWalk.iteOmega]); (try go_bits); (try simp only [pureUpon]); (first | done | exact ⟨rfl, rfl⟩ | exact ⟨trivial, rfl⟩ | rfl)
             (try simp only [Act.put, List.setIfInBounds_toArray, List.set_cons_zero, List.set_cons_succ]))
        first
          | (refine ty_skip rfl rfl ?_; (try simp only [Act.put, List.setIfInBounds_toArray, List.set_cons_zero, List.set_cons_succ]))
          | (refine ty_pure rfl rfl rfl rfl ?_; apply Exists.intro; refine ⟨fun wq hq hk => ?_, ?_⟩
             · have f0 := hq.cell hkc; have f1 := hq.cell hwc; simp only [pureAt]; go_simp; (try simp only [↓IntWalk.iteOmega]); (try go_bits); (try simp only [pureUpon]); (first | done | exact ⟨rfl, rfl⟩ | exact ⟨trivial, rfl⟩ | rfl)
             (try simp only [Act.put, List.setIfInBounds_toArray, List.set_cons_zero, List.set_cons_succ]))
        first
          | (refine ty_skip rfl rfl ?_; (try simp only [Act.put, List.setIfInBounds_toArray, List.set_cons_zero, List.set_cons_succ]))
          | (refine ty_pure rfl rfl rfl rfl ?_; apply Exists.intro; refine ⟨fun wq hq hk => ?_, ?_⟩
             · have f0 := hq.cell hkc; have f1 := hq.cell hwc; simp only [pureAt]; go_simp; (try simp only [↓IntWalk.iteOmega]); (try go_bits); (try simp only [pureUpon]); (first | done | exact ⟨rfl, rfl⟩ | exact ⟨trivial, rfl⟩ | rfl)
             (try simp only [Act.put, List.setIfInBounds_toArray, List.set_cons_zero, List.set_cons_succ]))
        first
          | (refine ty_skip rfl rfl ?_; (try simp only [Act.put, List.setIfInBounds_toArray, List.set_cons_zero, List.set_cons_succ]))
          | (refine ty_pure rfl rfl rfl rfl ?_; apply Exists.intro; refine ⟨fun wq hq hk => ?_, ?_⟩
             · have f0 := hq.cell hkc; have f1 := hq.cell hwc; simp only [pureAt]; go_simp; (try simp only [↓IntWalk.iteOmega]); (try go_bits); (try simp only [pureUpon]); (first | done | exact ⟨rfl, rfl⟩ | exact ⟨trivial, rfl⟩ | rfl)
             (try simp only [Act.put, List.setIfInBounds_toArray, List.set_cons_zero, List.set_cons_succ]))
        first
          | (refine ty_skip rfl rfl ?_; (try simp only [Act.put, List.setIfInBounds_toArray, List.set_cons_zero, List.set_cons_succ]))
          | (refine ty_pure rfl rfl rfl rfl ?_; apply Exists.intro; refine ⟨fun wq hq hk => ?_, ?_⟩
             · have f0 := hq.cell hkc; have f1 := hq.cell hwc; simp only [pureAt]; go_simp; (try simp only [↓IntWalk.iteOmega]); (try go_bits); (try simp only [pureUpon]); (first | done | exact ⟨rfl, rfl⟩ | exact ⟨trivial, rfl⟩ | rfl)
             (try simp only [Act.put, List.setIfInBounds_toArray, List.set_cons_zero, List.set_cons_succ]))
        first
          | (refine ty_skip rfl rfl ?_; (try simp only [Act.put, List.setIfInBounds_toArray, List.set_cons_zero, List.set_cons_succ]))
          | (refine ty_pure rfl rfl rfl rfl ?_; apply Exists.intro; refine ⟨fun wq hq hk => ?_, ?_⟩
             · have f0 := hq.cell hkc; have f1 := hq.cell hwc; simp only [pureAt]; go_simp; (try simp only [↓IntWalk.iteOmega]); (try go_bits); (try simp only [pureUpon]); (first | done | exact ⟨rfl, rfl⟩ | exact ⟨trivial, rfl⟩ | rfl)
             (try simp only [Act.put, List.setIfInBounds_toArray, List.set_cons_zero, List.set_cons_succ]))
        first
          | (refine ty_skip rfl rfl ?_; (try simp only [Act.put, List.setIfInBounds_toArray, List.set_cons_zero, List.set_cons_succ]))
          | (refine ty_pure rfl rfl rfl rfl ?_; apply Exists.intro; refine ⟨fun wq hq hk => ?_, ?_⟩
             · have f0 := hq.cell hkc; have f1 := hq.cell hwc; simp only [pureAt]; go_simp; (try simp only [↓IntWalk.iteOmega]); (try go_bits); (try simp only [pureUpon]); (first | done | exact ⟨rfl, rfl⟩ | exact ⟨trivial, rfl⟩ | rfl)
             (try simp only [Act.put, List.setIfInBounds_toArray, List.set_cons_zero, List.set_cons_succ]))
        first
          | (refine ty_skip rfl rfl ?_; (try simp only [Act.put, List.setIfInBounds_toArray, List.set_cons_zero, List.set_cons_succ]))
          | (refine ty_pure rfl rfl rfl rfl ?_; apply Exists.intro; refine ⟨fun wq hq hk => ?_, ?_⟩
             · have f0 := hq.cell hkc; have f1 := hq.cell hwc; simp only [pureAt]; go_simp; (try simp only [↓IntWalk.iteOmega]); (try go_bits); (try simp only [pureUpon]); (first | done | exact ⟨rfl, rfl⟩ | exact ⟨trivial, rfl⟩ | rfl)
             (try simp only [Act.put, List.setIfInBounds_toArray, List.set_cons_zero, List.set_cons_succ]))
        first
          | (refine ty_skip rfl rfl ?_; (try simp only [Act.put, List.setIfInBounds_toArray, List.set_cons_zero, List.set_cons_succ]))
          | (refine ty_pure rfl rfl rfl rfl ?_; apply Exists.intro; refine ⟨fun wq hq hk => ?_, ?_⟩
             · have f0 := hq.cell hkc; have f1 := hq.cell hwc; simp only [pureAt]; go_simp; (try simp only [↓IntWalk.iteOmega]); (try go_bits); (try simp only [pureUpon]); (first | done | exact ⟨rfl, rfl⟩ | exact ⟨trivial, rfl⟩ | rfl)
             (try simp only [Act.put, List.setIfInBounds_toArray, List.set_cons_zero, List.set_cons_succ]))
        first
          | (refine ty_skip rfl rfl ?_; (try simp only [Act.put, List.setIfInBounds_toArray, List.set_cons_zero, List.set_cons_succ]))
          | (refine ty_pure rfl rfl rfl rfl ?_; apply Exists.intro; refine ⟨fun wq hq hk => ?_, ?_⟩
             · have f0 := hq.cell hkc; have f1 := hq.cell hwc; simp only [pureAt]; go_simp; (try simp only [↓IntWalk.iteOmega]); (try go_bits); (try simp only [pureUpon]); (first | done | exact ⟨rfl, rfl⟩ | exact ⟨trivial, rfl⟩ | rfl)
             (try simp only [Act.put, List.setIfInBounds_toArray, List.set_cons_zero, List.set_cons_succ]))
        first
          | (refine ty_skip rfl rfl ?_; (try simp only [Act.put, List.setIfInBounds_toArray, List.set_cons_zero, List.set_cons_succ]))
          | (refine ty_pure rfl rfl rfl rfl ?_; apply Exists.intro; refine ⟨fun wq hq hk => ?_, ?_⟩
             · have f0 := hq.cell hkc; have f1 := hq.cell hwc; simp only [pureAt]; go_simp; (try simp only [↓IntWalk.iteOmega]); (try go_bits); (try simp only [pureUpon]); (first | done | exact ⟨rfl, rfl⟩ | exact ⟨trivial, rfl⟩ | rfl)
             (try simp only [Act.put, List.setIfInBounds_toArray, List.set_cons_zero, List.set_cons_succ]))
        first
          | (refine ty_skip rfl rfl ?_; (try simp only [Act.put, List.setIfInBounds_toArray, List.set_cons_zero, List.set_cons_succ]))
          | (refine ty_pure rfl rfl rfl rfl ?_; apply Exists.intro; refine ⟨fun wq hq hk => ?_, ?_⟩
             · have f0 := hq.cell hkc; have f1 := hq.cell hwc; simp only [pureAt]; go_simp; (try simp only [↓IntWalk.iteOmega]); (try go_bits); (try simp only [pureUpon]); (first | done | exact ⟨rfl, rfl⟩ | exact ⟨trivial, rfl⟩ | rfl)
             (try simp only [Act.put, List.setIfInBounds_toArray, List.set_cons_zero, List.set_cons_succ]))
        first
          | (refine ty_skip rfl rfl ?_; (try simp only [Act.put, List.setIfInBounds_toArray, List.set_cons_zero, List.set_cons_succ]))
          | (refine ty_pure rfl rfl rfl rfl ?_; apply Exists.intro; refine ⟨fun wq hq hk => ?_, ?_⟩
             · have f0 := hq.cell hkc; have f1 := hq.cell hwc; simp only [pureAt]; go_simp; (try simp only [↓IntWalk.iteOmega]); (try go_bits); (try simp only [pureUpon]); (first | done | exact ⟨rfl, rfl⟩ | exact ⟨trivial, rfl⟩ | rfl)
             (try simp only [Act.put, List.setIfInBounds_toArray, List.set_cons_zero, List.set_cons_succ]))
        refine ty_nil ?_
        simp only [List.drop_succ_cons, List.drop_zero]
        intro W5 hw5 hΓ
        have V5 := V4.below hw5.out
        clear hΓ hw5 V4 HBs hkc hwc hkbl hwbl
        go_wp2_with fail
        refine (Rr4.out _).mono ?_
        rintro e5 W6 ⟨rfl, hb6⟩
        have V6 := V5.below hb6
        clear V5 hb6
        go_wp2_with fail
        refine (Rr5.out _).mono ?_
        rintro e5 W7 ⟨rfl, hb6⟩
        have V7 := V6.below hb6
        clear V6 hb6
        go_wp2_with fail
        refine (Rr6.out _).mono ?_
        rintro e5 W8 ⟨rfl, hb6⟩
        have V8 := V7.below hb6
        clear V7 hb6
        go_wp2_with fail
        go_roundg gk
        case rel =>
          have hwl2 : ∀ j, (W ++ [x]).getD j 0 < 4294967296 := fun j => getD_snoc_lt W x j HWL.out hxl
          have hl2 : (W ++ [x]).length = i + 1 := by rw [List.length_append, HW.out]; rfl
          have hg2 : i + 1 + gk = 64 := by have := HI.out; omega
          refine ⟨i + 1, aa, a, b, c, ee, e, f, g, W ++ [x], congrArg _ eaa, rfl, rfl, rfl, congrArg _ eee, rfl, rfl, rfl, by simp, hg2, hl2, ⟨laa, la, lb, lc, lee, le, lf, lg⟩, hwl2, HNEXT.out, V8⟩
        case measure => omega
end Go.Proofs.Ytkblkdojmfgneaa
