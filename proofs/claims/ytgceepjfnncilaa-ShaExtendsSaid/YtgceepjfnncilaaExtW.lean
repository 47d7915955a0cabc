/- ShaExtends: the walk. -/
import Derived.Test.YtgceepjfnncilaaStepsW
namespace Go.Proofs.Ytgceepjfnncilaa
open Go.RowKit

theorem sumGo_app (m : Nat) (b : List UInt8) : ∀ (n : Nat) (H : List Nat) (a : List UInt8), a.length = 64 * n → sumGo (n + m) H (a ++ b) = sumGo m (sumGo n H a) b
  | 0, H, a, h => by
    have : a = [] := List.eq_nil_of_length_eq_zero (by omega)
    subst this
    rw [Nat.zero_add, List.nil_append]; rfl
  | n + 1, H, a, h => by
    have h1 : ¬ (a ++ b = []) := by intro e; have h9 := congrArg List.length e; rw [List.length_append, List.length_nil] at h9; omega
    have h2 : ¬ (a = []) := by intro e; have h9 := congrArg List.length e; rw [List.length_nil] at h9; omega
    rw [show n + 1 + m = (n + m) + 1 by omega]
    show (if a ++ b = [] then H else sumGo (n + m) (stepL H ((a ++ b).take 64)) ((a ++ b).drop 64)) = sumGo m (if a = [] then H else sumGo n (stepL H (a.take 64)) (a.drop 64)) b
    rw [if_neg h1, if_neg h2, List.take_append_of_le_length (by omega), List.drop_append_of_le_length (by omega)]
    exact sumGo_app m b n _ _ (by rw [List.length_drop]; omega)
theorem catB_pair (A B : ByteArray) : catB [A, B] = A ++ B := by
  apply ba_ext; simp [catB]
theorem whole_starts (s : List UInt8) : ∃ r, wholeL s = s ++ r := ⟨[128] ++ List.replicate (padN s.length) 0 ++ be64 (8 * s.length), by simp [wholeL]⟩
/-- A sum's bytes, four by four. -/
theorem sum_bytes (F : List Nat) (hF : Words F) (i k : Nat) (hi : i < 8) (hk : k < 4) : ((textL F).map bval).toArray[4 * i + k]? = some (Value.int .u8 ((F.getD i 0 / 2 ^ (24 - 8 * k) % 256 : Nat) : Int)) := by
  have h := textL_get F (4 * i + k) (by rw [hF.1]; omega)
  rw [show (4 * i + k) / 4 = i by omega, show (4 * i + k) % 4 = k by omega] at h
  rw [List.getElem?_toArray, List.getElem?_map, h]
  simp only [Option.map_some, bval, UInt8.toNat_ofNat']
theorem words_get (F : List Nat) (hF : Words F) (i : Nat) (hi : i < 8) : F.getD i 0 < 4294967296 := by
  rw [List.getD_eq_getElem?_getD, List.getElem?_eq_getElem (by rw [hF.1]; exact hi)]
  exact hF.2 _ (List.getElem_mem _)
/-- Words, the first i of them, noughts behind. -/
theorem cellsW_all (F : List Nat) (n : Nat) (h : F.length = n) : cellsW F n = (nums .u32 F).toArray := by
  unfold cellsW
  rw [h, Nat.sub_self, List.replicate_zero, List.append_nil]
set_option maxHeartbeats 8000000 in
set_option maxRecDepth 20000 in
theorem ext_walk (s t : ByteArray) (w : World) (hs : s.size ≤ 300) (ht : t.size ≤ 300) : Calls Try.prog 6 #[.string s, .string t] w fun e w' => e = .returned (.bool true) ∧ Below w.heap.size w w' := by
  have hmx : ¬ (300 : Int) < max (s.size : Int) t.size := by omega
  -- the plain law
  obtain ⟨F, hF⟩ : ∃ F, wordsL s.data.toList = F := ⟨_, rfl⟩
  have hFw : Words F := by rw [← hF]; exact words_words _
  have hsumF : sumL s.data.toList = textL F := by rw [← hF]; rfl
  obtain ⟨P, hP⟩ : ∃ S : ByteArray, (⟨(wholeL s.data.toList).toArray⟩ : ByteArray) = S := ⟨_, rfl⟩
  have hPl : P.data.toList = wholeL s.data.toList := by rw [← hP]
  have hPs : P.size = (wholeL s.data.toList).length := by rw [← hPl]; rfl
  have hsl : s.data.toList.length = s.size := rfl
  have hPle : P.size ≤ s.size + 72 := by rw [hPs]; exact whole_le _
  obtain ⟨n, hn⟩ : ∃ n, P.size = 64 * n := ⟨P.size / 64, by rw [hPs]; have := whole_mod s.data.toList; omega⟩
  obtain ⟨R, hR⟩ : ∃ R, P ++ t = R := ⟨_, rfl⟩
  have hRs : R.size = P.size + t.size := by rw [← hR, ByteArray.size_append]
  have hRl : R.data.toList = P.data.toList ++ t.data.toList := by rw [← hR, ba_app]
  obtain ⟨G, hG⟩ : ∃ F, wordsL R.data.toList = F := ⟨_, rfl⟩
  have hGw : Words G := by rw [← hG]; exact words_words _
  have hsumG : sumL R.data.toList = textL G := by rw [← hG]; rfl
  obtain ⟨A, hA⟩ : ∃ S : ByteArray, (⟨(wholeL R.data.toList).toArray⟩ : ByteArray) = S := ⟨_, rfl⟩
  have hAl : A.data.toList = wholeL R.data.toList := by rw [← hA]
  have hAs : A.size = (wholeL R.data.toList).length := by rw [← hAl]; rfl
  have hrl : R.data.toList.length = R.size := rfl
  have hAle : A.size ≤ R.size + 72 := by rw [hAs]; exact whole_le _
  have hAge : R.size ≤ A.size := by rw [hAs, whole_len]; omega
  obtain ⟨r1, hr1⟩ := whole_starts R.data.toList
  obtain ⟨r2, hr2⟩ := whole_starts s.data.toList
  have hpre1 : Lib.hasPrefix A.data.toList R.data.toList = true := by
    unfold Lib.hasPrefix; rw [List.isPrefixOf_iff_prefix, hAl]; exact ⟨r1, hr1.symm⟩
  have hpre2 : Lib.hasPrefix P.data.toList s.data.toList = true := by
    unfold Lib.hasPrefix; rw [List.isPrefixOf_iff_prefix, hPl]; exact ⟨r2, hr2.symm⟩
  obtain ⟨E, hE⟩ : ∃ t, A.extract P.size A.size = t := ⟨_, rfl⟩
  have hEl : E.data.toList = A.data.toList.drop P.size := by
    rw [← hE, ba_extract, List.take_of_length_le (by rw [List.length_drop]; exact Nat.le_refl _)]
  have hEs : E.size = A.size - P.size := by rw [← hE, ByteArray.size_extract]; omega
  obtain ⟨m, hm⟩ : ∃ m, E.size = 64 * m := ⟨E.size / 64, by
    have := whole_mod R.data.toList
    omega⟩
  have hPn : P.data.toList.length = 64 * n := hn
  have hAE : A.data.toList = P.data.toList ++ E.data.toList := by
    have h5 := List.take_append_drop P.size A.data.toList
    rw [hEl]
    have h6 : A.data.toList.take P.size = P.data.toList := by
      rw [hAl, hr1, hRl, List.append_assoc, List.take_left' (show P.data.toList.length = P.size from rfl)]
    rw [h6] at h5; exact h5.symm
  have hgo : sumGo m F E.data.toList = G := by
    have h1 : sumGo n constH P.data.toList = F := by
      rw [← hF, hPl]; unfold wordsL; rw [← hPs, hn, Nat.mul_div_cancel_left _ (by decide)]
    have h2 := sumGo_app m E.data.toList n constH P.data.toList hPn
    rw [h1, ← hAE] at h2
    rw [← h2, ← hG, hAl]
    unfold wordsL
    rw [← hAs, show A.size / 64 = n + m by omega]
  -- the contracts
  have hWP := fun W => whole_any s W (by omega)
  have hWA := fun W => whole_any R W (by omega)
  rw [hP] at hWP; rw [hA] at hWA
  have hH1 := fun W => Try.strings_HasPrefix A R W
  have hH2 := fun W => Try.strings_HasPrefix P s W
  rw [hpre1] at hH1; rw [hpre2] at hH2
  have hS1 := fun b W t B => sum_row b [s] s W t B (catB_one s) (by omega) (by simp)
  have hS2 := fun b W t' B => sum_row b [P, t] R W t' B ((catB_pair P t).trans hR) (by omega) (by simp)
  rw [hsumF] at hS1; rw [hsumG] at hS2
  have hadd : ∀ W, (Op.stringOp .add P t).run Try.prog W = .ok (.string R) W := fun W => by rw [← hR]; exact run_string_add_sum W _ _ (by omega)
  have hmod : (P.size : Int).tmod 64 = 0 := by
    have h5 : (P.size : Int).tmod 64 = ((P.size % 64 : Nat) : Int) := (Int.ofNat_tmod P.size 64).symm
    rw [h5]; omega
  have hPA : (P.size : Int) ≤ A.size := by omega
  have HWP := Lib.hid hWP; have HWA := Lib.hid hWA; have HH1 := Lib.hid hH1; have HH2 := Lib.hid hH2; have HS1 := Lib.hid hS1; have HS2 := Lib.hid hS2; have HGO := Lib.hid hgo; have HM := Lib.hid hm
  clear hWP hWA hH1 hH2 hS1 hS2 hgo hm hAE hPn hEs hEl hpre1 hpre2 hr1 hr2 r1 r2 hAge hAle hrl hAs hAl hA hsumG hG hRl hRs hR hn hPle hsl hPs hPl hP hsumF hF
  go_enter Try.func6, Try.ntmps6
  go_wp2_with fail
  refine (awake03_any w).mono ?_
  rintro e W1 ⟨rfl, HB1⟩
  have HB1s := HB1.size
  go_wp2_with fail
  refine (HWP.out _).mono ?_
  rintro e W2 ⟨rfl, hb⟩
  have HB2 := Below.thn HB1 hb HB1s
  have HB2s := HB2.size
  clear hb HB1 HB1s HWP
  go_wp2_with fail
  refine (HWA.out _).mono ?_
  rintro e W3 ⟨rfl, hb⟩
  have HB3 := Below.thn HB2 hb HB2s
  have HB3s := HB3.size
  clear hb HB2 HB2s HWA
  go_wp2_with fail
  refine (HH1.out _).mono ?_
  rintro e W4 ⟨rfl, rfl⟩
  go_wp2_with fail
  refine (HH2.out _).mono ?_
  rintro e W5 ⟨rfl, rfl⟩
  go_wp2_with fail
  refine (HS1.out W5.heap.size _ 9 ((Blk.new' rfl).conv rfl)).mono ?_
  rintro e W6 ⟨rfl, hb⟩
  have HB6 : Below w.heap.size w W6 := Below.thn (by (repeat (first | (with_reducible assumption) | (with_reducible exact Below.refl _ _) | with_reducible apply bl_drewN | with_reducible apply Below.drew | (with_reducible apply bl_alloc; focus (first | (simp; done) | (simp; omega) | omega)) | (with_reducible apply bl_set; focus (first | (simp; done) | (simp; omega) | omega))))) hb
  have HB6s := HB6.size
  clear hb HB3 HB3s HS1
  have hCs : ∀ F, Words F → ((textL F).map bval).toArray.size = 32 := fun F h => by rw [List.size_toArray, List.length_map, textL_len, h.1]
  have hall : ∀ F, ((textL F).map bval).toArray.all (·.oneCell') = true := fun F => all_oneCell_toArray (fun v hv => by obtain ⟨n, _, rfl⟩ := List.mem_map.1 hv; rfl)
  go_upto_region 11 with (refine wpList_put rfl 26 _ _ rfl W6.heap.size _ _ 26 rfl rfl (by (repeat (first | (with_reducible assumption) | (with_reducible apply Blk.new'; (first | (with_reducible rfl) | (simp; done))) | with_reducible apply Blk.alloc | with_reducible apply Blk.set | ((with_reducible apply Blk.set_ne); focus (first | (simp; done) | (simp; omega))) | with_reducible apply Blk.drewN | with_reducible apply Blk.drew))) (by rw [hCs F hFw]; kernel_rfl) ((hCs F hFw).trans rfl) (hall F) (fun W7 hp7 B7 => ?_))
  have HB7 : Below w.heap.size w W7 := hp7.below (by omega) (by (repeat (first | (with_reducible assumption) | (with_reducible exact Below.refl _ _) | with_reducible apply bl_drewN | with_reducible apply Below.drew | (with_reducible apply bl_alloc; focus (first | (simp; done) | (simp; omega) | omega)) | (with_reducible apply bl_set; focus (first | (simp; done) | (simp; omega) | omega)))))
  clear hp7 HB6
  obtain ⟨b7, hb7⟩ : ∃ b, W6.heap.size = b := ⟨_, rfl⟩
  rw [hb7] at B7 HB6s ⊢
  have B7l := B7.lt
  clear hb7
  obtain ⟨b8, hb8⟩ : ∃ b, W7.heap.size = b := ⟨_, rfl⟩
  refine wp_absQ (fun W => Below w.heap.size w W ∧ Blk W b7 ((textL F).map bval).toArray 26 ∧ Blk W b8 (cellsW (F.take 0) 8) 35) ⟨by (repeat (first | (with_reducible assumption) | (with_reducible exact Below.refl _ _) | with_reducible apply bl_drewN | with_reducible apply Below.drew | (with_reducible apply bl_alloc; focus (first | (simp; done) | (simp; omega) | omega)) | (with_reducible apply bl_set; focus (first | (simp; done) | (simp; omega) | omega)))), by (repeat (first | (with_reducible assumption) | (with_reducible apply Blk.new'; (first | (with_reducible rfl) | (simp; done))) | with_reducible apply Blk.alloc | with_reducible apply Blk.set | ((with_reducible apply Blk.set_ne); focus (first | (simp; done) | (simp; omega))) | with_reducible apply Blk.drewN | with_reducible apply Blk.drew)), by rw [← hb8]; exact (Blk.new' rfl : Blk (W7.alloc (.cells z35 35)) W7.heap.size _ 35).conv rfl⟩ (fun W8 V8 => ?_)
  rw [hb8]
  have hb87 : b7 < b8 := by omega
  clear HB7 B7 B7l hb8
  obtain ⟨HB8, B7, B8⟩ := V8
  go_wp2_with fail
  go_loopg [50] 8 (fun gk t50 wr => ∃ i : Nat, t50 = .int .i64 i ∧ i + gk = 8 ∧ Below w.heap.size w wr ∧ Blk wr b7 ((textL F).map bval).toArray 26 ∧ Blk wr b8 (cellsW (F.take i) 8) 35)
  case atStart => exact ⟨0, rfl, rfl, HB8, B7, B8⟩
  case round =>
    clear HB8 B7 B8
    obtain ⟨i, rfl, hi, HB, B7, B8⟩ := hrel
    cases gk with
    | zero =>
      obtain rfl : i = 8 := by omega
      rw [List.take_of_length_le (by rw [hFw.1]; exact Nat.le_refl _), cellsW_all F 8 hFw.1] at B8
      clear hi B7
      go_wp2_with fail
      go_loopg [10] m (fun gk t10 wr => ∃ (S : ByteArray) (H : List Nat), t10 = .string S ∧ S.size = 64 * gk ∧ Words H ∧ sumGo gk H S.data.toList = G ∧ Below w.heap.size w wr ∧ Blk wr b8 (nums .u32 H).toArray 35)
      case atStart => exact ⟨E, F, rfl, HM.out, hFw, HGO.out, HB, B8⟩
      case round =>
        clear HB B8 HM HGO
        obtain ⟨S, H, rfl, hN, hHw, hgo, HB, B⟩ := hrel
        cases gk with
        | zero =>
          obtain rfl : S = ⟨#[]⟩ := by
            have h0 : S.data.size = 0 := by show S.size = 0; omega
            have : S.data = #[] := Array.eq_empty_of_size_eq_zero h0
            show (⟨S.data⟩ : ByteArray) = _
            rw [this]
          have hG : H = G := hgo
          subst hG
          clear hgo hN
          have HBs := HB.size
          have Bl := B.lt
          go_wp2_with fail
          refine (HS2.out wr.heap.size _ 9 ((Blk.new' rfl).conv rfl)).mono ?_
          rintro e W17 ⟨rfl, hb⟩
          have HB17 : Below w.heap.size w W17 := Below.thn (by (repeat (first | (with_reducible assumption) | (with_reducible exact Below.refl _ _) | with_reducible apply bl_drewN | with_reducible apply Below.drew | (with_reducible apply bl_alloc; focus (first | (simp; done) | (simp; omega) | omega)) | (with_reducible apply bl_set; focus (first | (simp; done) | (simp; omega) | omega))))) hb
          have B17 : Blk W17 b8 (nums .u32 H).toArray 35 := Blk.below (by (repeat (first | (with_reducible assumption) | (with_reducible apply Blk.new'; (first | (with_reducible rfl) | (simp; done))) | with_reducible apply Blk.alloc | with_reducible apply Blk.set | ((with_reducible apply Blk.set_ne); focus (first | (simp; done) | (simp; omega))) | with_reducible apply Blk.drewN | with_reducible apply Blk.drew))) hb
          have HB17s := HB17.size
          have B17l := B17.lt
          clear hb HB B HBs Bl HS2
          go_upto_region 24 with (refine wpList_put rfl 26 _ _ rfl W17.heap.size _ _ 26 rfl rfl (by (repeat (first | (with_reducible assumption) | (with_reducible apply Blk.new'; (first | (with_reducible rfl) | (simp; done))) | with_reducible apply Blk.alloc | with_reducible apply Blk.set | ((with_reducible apply Blk.set_ne); focus (first | (simp; done) | (simp; omega))) | with_reducible apply Blk.drewN | with_reducible apply Blk.drew))) (by rw [hCs H hHw]; kernel_rfl) ((hCs H hHw).trans rfl) (hall H) (fun W18 hp9 B7 => ?_))
          have HB18 : Below w.heap.size w W18 := hp9.below (by omega) (by (repeat (first | (with_reducible assumption) | (with_reducible exact Below.refl _ _) | with_reducible apply bl_drewN | with_reducible apply Below.drew | (with_reducible apply bl_alloc; focus (first | (simp; done) | (simp; omega) | omega)) | (with_reducible apply bl_set; focus (first | (simp; done) | (simp; omega) | omega)))))
          have B18 : Blk W18 b8 (nums .u32 H).toArray 35 := hp9.blk (by omega) (Blk.alloc B17)
          clear hp9 B17 HB17
          obtain ⟨b13, hb13⟩ : ∃ b, W17.heap.size = b := ⟨_, rfl⟩
          rw [hb13] at B7 ⊢
          clear hb13
          go_wp2_with fail
          go_loopg [107] 8 (fun gk t107 wr => ∃ i : Nat, t107 = .int .i64 i ∧ i + gk = 8 ∧ Below w.heap.size w wr ∧ Blk wr b13 ((textL H).map bval).toArray 26 ∧ Blk wr b8 (nums .u32 H).toArray 35)
          case atStart => exact ⟨0, rfl, rfl, HB18, B7, B18⟩
          case round =>
            clear HB18 B7 B18
            obtain ⟨i, rfl, hi, HB, B7, B8⟩ := hrel
            cases gk with
            | zero =>
              obtain rfl : i = 8 := by omega
              clear hi
              go_wp2_with fail
              go_ret
              exact ⟨rfl, HB⟩
            | succ gk =>
              have hi' : (i : Int) < 8 := by omega
              have hil : i < 8 := by omega
              have HBs := HB.size
              have hx32 := words_get H hHw i hil
              have q0 := sum_bytes H hHw i 0 hil (by decide)
              have q1 := sum_bytes H hHw i 1 hil (by decide)
              have q2 := sum_bytes H hHw i 2 hil (by decide)
              have q3 := sum_bytes H hHw i 3 hil (by decide)
              obtain ⟨x, hx⟩ : ∃ x, H.getD i 0 = x := ⟨_, rfl⟩
              rw [hx] at hx32 q0 q1 q2 q3
              have hfw := word_of x hx32
              simp only [Nat.mul_zero, Nat.sub_zero, Nat.mul_one, show 24 - 8 = 16 from rfl, show 8 * 2 = 16 from rfl, show 24 - 16 = 8 from rfl, show 8 * 3 = 24 from rfl, Nat.sub_self, Nat.pow_zero, Nat.div_one] at q0 q1 q2 q3
              obtain ⟨y0, hy0⟩ : ∃ y, x / 2 ^ 24 % 256 = y := ⟨_, rfl⟩
              obtain ⟨y1, hy1⟩ : ∃ y, x / 2 ^ 16 % 256 = y := ⟨_, rfl⟩
              obtain ⟨y2, hy2⟩ : ∃ y, x / 2 ^ 8 % 256 = y := ⟨_, rfl⟩
              obtain ⟨y3, hy3⟩ : ∃ y, x % 256 = y := ⟨_, rfl⟩
              rw [hy0] at q0 hfw; rw [hy1] at q1 hfw; rw [hy2] at q2 hfw; rw [hy3] at q3 hfw
              have l0 : y0 < 256 := by rw [← hy0]; exact Nat.mod_lt _ (by decide)
              have l1 : y1 < 256 := by rw [← hy1]; exact Nat.mod_lt _ (by decide)
              have l2 : y2 < 256 := by rw [← hy2]; exact Nat.mod_lt _ (by decide)
              have l3 : y3 < 256 := by rw [← hy3]; exact Nat.mod_lt _ (by decide)
              have hor := or_word y0 y1 y2 y3 x l0 l1 l2 l3 hfw
              obtain ⟨p, hp⟩ : ∃ p, 4 * i = p := ⟨_, rfl⟩
              rw [hp] at q0 q1 q2 q3
              have hpi : (4 : Int) * i = (p : Int) := by omega
              obtain ⟨p1, hp1⟩ : ∃ q, p + 1 = q := ⟨_, rfl⟩
              obtain ⟨p2, hp2⟩ : ∃ q, p + 2 = q := ⟨_, rfl⟩
              obtain ⟨p3, hp3⟩ : ∃ q, p + 3 = q := ⟨_, rfl⟩
              rw [Nat.add_zero] at q0; rw [hp1] at q1; rw [hp2] at q2; rw [hp3] at q3
              have hp1i : (p : Int) + 1 = (p1 : Int) := by omega
              have hp2i : (p : Int) + 2 = (p2 : Int) := by omega
              have hp3i : (p : Int) + 3 = (p3 : Int) := by omega
              have hp0b : (p : Int) < 32 := by omega
              have hp1b : (p1 : Int) < 32 := by omega
              have hp2b : (p2 : Int) < 32 := by omega
              have hp3b : (p3 : Int) < 32 := by omega
              have c0 := (B7.cell p).trans q0
              have c1 := (B7.cell p1).trans q1
              have c2 := (B7.cell p2).trans q2
              have c3 := (B7.cell p3).trans q3
              clear q0 q1 q2 q3 hfw hy0 hy1 hy2 hy3 hp hp1 hp2 hp3
              have cv : wr.cell? ⟨b8, i, none⟩ = some (.int .u32 x) := by rw [B8.cell, List.getElem?_toArray, nums_get _ _ _ (by rw [hHw.1]; exact hil), hx]
              have HI := Lib.hid hi
              have B7l := B7.lt
              have B8l := B8.lt
              clear hx hi
              go_wp2_with fail
              refine wp_region_gr (by kernel_rfl) (by kernel_rfl) ?_
              repeat (first
                | go_big_quiet_skip
                | ((refine BigFrame.wpQuiet_want rfl (fun K hK => quiet_mk ?_)); apply Exists.intro; refine ⟨fun wq hq => ?_, hK _ ?_⟩
                   · have f0 := hq.cell c0; have f1 := hq.cell c1; have f2 := hq.cell c2; have f3 := hq.cell c3; have f4 := hq.cell cv; go_simp; (try simp only [↓IntWalk.iteOmega]); (try go_bits)
                     first | done | rfl | exact ⟨rfl, rfl⟩ | exact ⟨trivial, rfl⟩
                   clear hK K; (try simp only [Act.put, List.setIfInBounds_toArray, List.set_cons_zero, List.set_cons_succ])))
              refine wpQuiet_nil ?_
              intro W9 hw9
              have B9 := B7.gr hw9; have C9 := B8.gr hw9
              have HB9 := Below.thn HB hw9.out HBs
              clear B7 B8 HB hw9 c0 c1 c2 c3 B7l cv B8l
              go_wp2_with fail
              go_roundg gk
              case rel => exact ⟨i + 1, by simp, by have := HI.out; omega, HB9, B9, C9⟩
              case measure => omega
        | succ gk =>
          have hne : S.toList.isEmpty = false := by
            rw [ba_toList, List.isEmpty_eq_false_iff]
            intro h
            have : S.data.size = 0 := by rw [← Array.length_toList, h]; rfl
            exact absurd this (by show S.size ≠ 0; omega)
          have hle : (64 : Int) ≤ (S.size : Int) := by omega
          have hl64 : S.data.toList.length = 64 * (gk + 1) := hN
          have hgo2 : sumGo gk (stepL H (S.data.toList.take 64)) (S.data.toList.drop 64) = G := by
            rw [← hgo]
            show _ = if S.data.toList = [] then H else _
            rw [if_neg (by intro h; rw [h] at hl64; simp at hl64)]
          have HGO := Lib.hid hgo2
          have HN := Lib.hid hN
          clear hgo hgo2 hl64 hN
          obtain ⟨S64, hS64⟩ : ∃ t, S.extract 0 64 = t := ⟨_, rfl⟩
          have hSl : S64.data.toList = S.data.toList.take 64 := by rw [← hS64, ba_extract]; simp
          have hS6 : S64.size = 64 := by rw [← hS64, ByteArray.size_extract]; have := HN.out; omega
          obtain ⟨SR, hSR⟩ : ∃ t, S.extract 64 S.size = t := ⟨_, rfl⟩
          have hSRl : SR.data.toList = S.data.toList.drop 64 := by
            rw [← hSR, ba_extract, List.take_of_length_le (by rw [List.length_drop]; exact Nat.le_refl _)]
          have hSRs : SR.size = 64 * gk := by rw [← hSR, ByteArray.size_extract]; have := HN.out; omega
          obtain ⟨H2, hH2⟩ : ∃ K, stepL H (S.data.toList.take 64) = K := ⟨_, rfl⟩
          have hw2 : Words H2 := by rw [← hH2]; exact step_words _ _
          have hgo := HGO.out
          rw [hH2, ← hSRl] at hgo
          have hst := fun W => stepx_any H hHw S64 W hS6
          rw [hSl, hH2] at hst
          obtain ⟨g0, g1, g2, g3, g4, g5, g6, g7, rfl, hlt⟩ := words_form hHw
          have BHx : Blk wr b8 (c35 g0 g1 g2 g3 g4 g5 g6 g7) 35 := B.conv rfl
          have HST := Lib.hid hst; have HGO2 := Lib.hid hgo; have HSR2 := Lib.hid hSRs
          have HBs := HB.size
          clear hst hgo HGO hHw hlt hSl hS6 hSRl hSRs hH2 B
          go_wp2_with fail
          refine wp_region_typed 8 (fun k => match k with  | _ => []) (fun k => match k with | 6 => true | _ => false) (fun k => match k with | 3 => some ⟨(Unit), (()), (fun _ => .tuple #[.agg (nums .u32 H2).toArray, .int .i64 0]), (fun _ _ => True), (fun _ _ _ h _ => h)⟩ | 7 => some ⟨(Nat), (0), (fun b => .pointer (some ⟨b, 0, none⟩)), (fun b w => wr.heap.size ≤ b ∧ Blk w b z35 35), (fun b w w' h hb => ⟨h.1, h.2.below hb⟩)⟩ | _ => none) (by kernel_rfl) (by kernel_rfl) (by intro d0 v0 c0 a0 w0 h0; first | (cases d0 <;> exact h0) | exact hP _ _ _ _ _ h0) ?_
          rw [show List.range 8 = [0, 1, 2, 3, 4, 5, 6, 7] from rfl]
          first
            | (refine ty_skip rfl rfl ?_; (try simp only [Act.put, List.setIfInBounds_toArray, List.set_cons_zero, List.set_cons_succ]))
            | (refine ty_pure rfl rfl rfl rfl ?_; apply Exists.intro; refine ⟨fun wq hq hk => ?_, ?_⟩
               · have f0 := hq.blk BHx; simp only [pureAt]; go_simp; (try simp only [↓IntWalk.iteOmega]); (try go_bits); (try simp only [pureUpon]); (first | done | exact ⟨rfl, rfl⟩ | exact ⟨trivial, rfl⟩ | rfl)
               (try simp only [Act.put, List.setIfInBounds_toArray, List.set_cons_zero, List.set_cons_succ]))
          first
            | (refine ty_skip rfl rfl ?_; (try simp only [Act.put, List.setIfInBounds_toArray, List.set_cons_zero, List.set_cons_succ]))
            | (refine ty_pure rfl rfl rfl rfl ?_; apply Exists.intro; refine ⟨fun wq hq hk => ?_, ?_⟩
               · have f0 := hq.blk BHx; simp only [pureAt]; go_simp; (try simp only [↓IntWalk.iteOmega]); (try go_bits); (try simp only [pureUpon]); (first | done | exact ⟨rfl, rfl⟩ | exact ⟨trivial, rfl⟩ | rfl)
               (try simp only [Act.put, List.setIfInBounds_toArray, List.set_cons_zero, List.set_cons_succ]))
          first
            | (refine ty_skip rfl rfl ?_; (try simp only [Act.put, List.setIfInBounds_toArray, List.set_cons_zero, List.set_cons_succ]))
            | (refine ty_pure rfl rfl rfl rfl ?_; apply Exists.intro; refine ⟨fun wq hq hk => ?_, ?_⟩
               · have f0 := hq.blk BHx; simp only [pureAt]; go_simp; (try simp only [↓IntWalk.iteOmega]); (try go_bits); (try simp only [pureUpon]); (first | done | exact ⟨rfl, rfl⟩ | exact ⟨trivial, rfl⟩ | rfl)
               (try simp only [Act.put, List.setIfInBounds_toArray, List.set_cons_zero, List.set_cons_succ]))
          refine ty_rel rfl rfl _ rfl rfl (fun wq hq hk => ?_) ?_
          · have f0 := hq.blk BHx; simp only [relAt]; go_simp; (try simp only [relUpon]); (go_at_call 24; refine (HST.out _).mono ?_; rintro e w9 ⟨rfl, hb9⟩; exact ⟨_, rfl, .mk hb9 () rfl trivial⟩)
          rintro ⟨⟩
          (try simp only [Act.put, List.setIfInBounds_toArray, List.set_cons_zero, List.set_cons_succ])
          first
            | (refine ty_skip rfl rfl ?_; (try simp only [Act.put, List.setIfInBounds_toArray, List.set_cons_zero, List.set_cons_succ]))
            | (refine ty_pure rfl rfl rfl rfl ?_; apply Exists.intro; refine ⟨fun wq hq hk => ?_, ?_⟩
               · have f0 := hq.blk BHx; simp only [pureAt]; go_simp; (try simp only [↓IntWalk.iteOmega]); (try go_bits); (try simp only [pureUpon]); (first | done | exact ⟨rfl, rfl⟩ | exact ⟨trivial, rfl⟩ | rfl)
               (try simp only [Act.put, List.setIfInBounds_toArray, List.set_cons_zero, List.set_cons_succ]))
          first
            | (refine ty_skip rfl rfl ?_; (try simp only [Act.put, List.setIfInBounds_toArray, List.set_cons_zero, List.set_cons_succ]))
            | (refine ty_pure rfl rfl rfl rfl ?_; apply Exists.intro; refine ⟨fun wq hq hk => ?_, ?_⟩
               · have f0 := hq.blk BHx; simp only [pureAt]; go_simp; (try simp only [↓IntWalk.iteOmega]); (try go_bits); (try simp only [pureUpon]); (first | done | exact ⟨rfl, rfl⟩ | exact ⟨trivial, rfl⟩ | rfl)
               (try simp only [Act.put, List.setIfInBounds_toArray, List.set_cons_zero, List.set_cons_succ]))
          first
            | (refine ty_skip rfl rfl ?_; (try simp only [Act.put, List.setIfInBounds_toArray, List.set_cons_zero, List.set_cons_succ]))
            | (refine ty_late rfl rfl rfl ?_; apply Exists.intro; refine ⟨fun wq => ?_, ?_⟩
               · simp only [pureAt]; go_simp; (try simp only [↓IntWalk.iteOmega]); (try go_bits); (try simp only [pureUpon]); (first | done | exact ⟨rfl, rfl⟩ | exact ⟨trivial, rfl⟩ | rfl)
               (try simp only [Act.put, List.setIfInBounds_toArray, List.set_cons_zero, List.set_cons_succ]))
          refine ty_rel rfl rfl _ rfl rfl (fun wq hq hk => ?_) ?_
          · have f0 := hq.blk BHx; simp only [relAt]; go_simp; (try simp only [relUpon]); exact .mk ((Below.refl _ _).alloc (Nat.le_refl _) _) wq.heap.size rfl ⟨hq.size, Blk.new wq _ _⟩
          rintro (b11 : Nat)
          (try simp only [Act.put, List.setIfInBounds_toArray, List.set_cons_zero, List.set_cons_succ])
          refine ty_nil ?_
          simp only [List.drop_succ_cons, List.drop_zero]
          intro W5 hw5 hΓ
          obtain ⟨hb11, D5⟩ := hΓ _ (.head _)
          have HB6 := Below.thn HB hw5.out HBs
          have B6 := BHx.below hw5.out
          have hlt8 := BHx.lt
          clear hΓ hw5 BHx HB
          have hs8 : (nums .u32 H2).toArray.size = 8 := by rw [List.size_toArray, nums_length, hw2.1]
          go_upto_region 20 with (refine wpList_put rfl 35 _ _ rfl b11 _ _ 35 rfl rfl D5 (by rw [hs8]; kernel_rfl) (hs8.trans rfl) (words_all H2) (fun W9 hp9 D9 => ?_))
          have HB9 := hp9.below (by omega) HB6
          have B9 := hp9.blk (q := b8) (by omega) B6
          clear hp9 HB6 B6 D5
          have hH2s := hs8
          obtain ⟨k0, k1, k2, k3, k4, k5, k6, k7, rfl, hk⟩ := words_form hw2
          have D9c : ∀ o, W9.cell? ⟨b11, o, none⟩ = (c35 k0 k1 k2 k3 k4 k5 k6 k7)[o]? := D9.cell
          have D9l := D9.lt
          clear D9
          go_upto_region 21 with (refine wpList_put rfl 35 _ _ rfl b8 _ _ 35 rfl rfl B9 (by kernel_rfl) rfl (words_all [k0, k1, k2, k3, k4, k5, k6, k7]) (fun W10 hp10 B10 => ?_))
          have HB10 := hp10.below (by omega) HB9
          clear hp10 HB9 B9 D9c D9l hs8 hH2s
          go_wp2_with fail
          go_roundg gk
          case rel => exact ⟨SR, [k0, k1, k2, k3, k4, k5, k6, k7], rfl, HSR2.out, hw2, HGO2.out, HB10, B10⟩
          case measure => omega
    | succ gk =>
      have hi' : (i : Int) < 8 := by omega
      have hil : i < 8 := by omega
      have HBs := HB.size
      have hx32 := words_get F hFw i hil
      have q0 := sum_bytes F hFw i 0 hil (by decide)
      have q1 := sum_bytes F hFw i 1 hil (by decide)
      have q2 := sum_bytes F hFw i 2 hil (by decide)
      have q3 := sum_bytes F hFw i 3 hil (by decide)
      obtain ⟨x, hx⟩ : ∃ x, F.getD i 0 = x := ⟨_, rfl⟩
      rw [hx] at hx32 q0 q1 q2 q3
      have hfw := word_of x hx32
      simp only [Nat.mul_zero, Nat.sub_zero, Nat.mul_one, show 24 - 8 = 16 from rfl, show 8 * 2 = 16 from rfl, show 24 - 16 = 8 from rfl, show 8 * 3 = 24 from rfl, Nat.sub_self, Nat.pow_zero, Nat.div_one] at q0 q1 q2 q3
      obtain ⟨y0, hy0⟩ : ∃ y, x / 2 ^ 24 % 256 = y := ⟨_, rfl⟩
      obtain ⟨y1, hy1⟩ : ∃ y, x / 2 ^ 16 % 256 = y := ⟨_, rfl⟩
      obtain ⟨y2, hy2⟩ : ∃ y, x / 2 ^ 8 % 256 = y := ⟨_, rfl⟩
      obtain ⟨y3, hy3⟩ : ∃ y, x % 256 = y := ⟨_, rfl⟩
      rw [hy0] at q0 hfw; rw [hy1] at q1 hfw; rw [hy2] at q2 hfw; rw [hy3] at q3 hfw
      have l0 : y0 < 256 := by rw [← hy0]; exact Nat.mod_lt _ (by decide)
      have l1 : y1 < 256 := by rw [← hy1]; exact Nat.mod_lt _ (by decide)
      have l2 : y2 < 256 := by rw [← hy2]; exact Nat.mod_lt _ (by decide)
      have l3 : y3 < 256 := by rw [← hy3]; exact Nat.mod_lt _ (by decide)
      have hor := or_word y0 y1 y2 y3 x l0 l1 l2 l3 hfw
      obtain ⟨p, hp⟩ : ∃ p, 4 * i = p := ⟨_, rfl⟩
      rw [hp] at q0 q1 q2 q3
      have hpi : (4 : Int) * i = (p : Int) := by omega
      obtain ⟨p1, hp1⟩ : ∃ q, p + 1 = q := ⟨_, rfl⟩
      obtain ⟨p2, hp2⟩ : ∃ q, p + 2 = q := ⟨_, rfl⟩
      obtain ⟨p3, hp3⟩ : ∃ q, p + 3 = q := ⟨_, rfl⟩
      rw [Nat.add_zero] at q0; rw [hp1] at q1; rw [hp2] at q2; rw [hp3] at q3
      have hp1i : (p : Int) + 1 = (p1 : Int) := by omega
      have hp2i : (p : Int) + 2 = (p2 : Int) := by omega
      have hp3i : (p : Int) + 3 = (p3 : Int) := by omega
      have hp0b : (p : Int) < 32 := by omega
      have hp1b : (p1 : Int) < 32 := by omega
      have hp2b : (p2 : Int) < 32 := by omega
      have hp3b : (p3 : Int) < 32 := by omega
      have c0 := (B7.cell p).trans q0
      have c1 := (B7.cell p1).trans q1
      have c2 := (B7.cell p2).trans q2
      have c3 := (B7.cell p3).trans q3
      clear q0 q1 q2 q3 hfw hy0 hy1 hy2 hy3 hp hp1 hp2 hp3
      have hnext : F.take (i + 1) = F.take i ++ [x] := by
        rw [List.take_add_one, List.getElem?_eq_getElem (by rw [hFw.1]; exact hil), ← hx, List.getD_eq_getElem?_getD, List.getElem?_eq_getElem (by rw [hFw.1]; exact hil)]; rfl
      have htl : (F.take i).length = i := by rw [List.length_take, hFw.1]; omega
      have hset := cellsW_set (F.take i) 8 x (by rw [htl]; exact hil)
      have hzero := cellsW_next (F.take i) 8 (by rw [htl]; exact hil)
      rw [htl] at hset hzero
      rw [← hnext] at hset
      have HSET := Lib.hid hset; have HI := Lib.hid hi
      have B7l := B7.lt
      clear hset hnext htl hx hi
      go_wp2_with fail
      refine wp_region_gr_tail 30 (by kernel_rfl) (by kernel_rfl) ?_
      simp only [List.take_succ_cons, List.take_zero, List.drop_succ_cons, List.drop_zero]
      repeat (first
        | go_big_quiet_skip
        | ((refine BigFrame.wpQuiet_want rfl (fun K hK => quiet_mk ?_)); apply Exists.intro; refine ⟨fun wq hq => ?_, hK _ ?_⟩
           · have f0 := hq.cell c0; have f1 := hq.cell c1; have f2 := hq.cell c2; have f3 := hq.cell c3; go_simp; (try simp only [↓IntWalk.iteOmega]); (try go_bits)
             first | done | rfl | exact ⟨rfl, rfl⟩ | exact ⟨trivial, rfl⟩
           clear hK K; (try simp only [Act.put, List.setIfInBounds_toArray, List.set_cons_zero, List.set_cons_succ])))
      refine wpQuiet_nil ?_
      intro W9 hw9
      have B9 := B7.gr hw9; have C9 := B8.gr hw9
      have HB9 := Below.thn HB hw9.out HBs
      have c9 : W9.cell? ⟨b8, i, none⟩ = some (.int .u32 0) := by rw [C9.cell]; exact hzero
      have f9 := C9.frozen i
      have l9 := C9.lt
      clear B7 B8 HB hw9 c0 c1 c2 c3 B7l
      go_upto_region 15 with fail
      refine wp_absQ (fun W => Below w.heap.size w W ∧ Blk W b7 ((textL F).map bval).toArray 26 ∧ Blk W b8 (cellsW (F.take (i + 1)) 8) 35) ⟨HB9.setCell (p := ⟨b8, i, none⟩) (by show w.heap.size ≤ b8; omega) _, B9.set_ne (by show b7 ≠ b8; omega), C9.set.conv HSET.out⟩ (fun W10 V10 => ?_)
      obtain ⟨HB10, B10, C10⟩ := V10
      clear B9 C9 HB9 c9 f9 l9
      go_wp2_with fail
      go_roundg gk
      case rel => exact ⟨i + 1, by simp, by have := HI.out; omega, HB10, B10, C10⟩
      case measure => omega
set_option maxHeartbeats 4000000 in
set_option maxRecDepth 20000 in
theorem ext_long (s t : ByteArray) (w : World) (hmx : (300 : Int) < max (s.size : Int) t.size) : Calls Try.prog 6 #[.string s, .string t] w fun e w' => e = .returned (.bool true) ∧ Below w.heap.size w w' := by
  go_enter Try.func6, Try.ntmps6
  go_wp2_with fail
  refine (awake03_any w).mono ?_
  rintro e W1 ⟨rfl, hb⟩
  go_wp2_with fail
  go_ret
  exact ⟨rfl, hb⟩
end Go.Proofs.Ytgceepjfnncilaa
