/- HmacKeys, HmacSums, HmacDerives: the walks. -/
import Derived.Test.YtgceepjfnncilaaRHmac2
namespace Go.Proofs.Ytgceepjfnncilaa
open Go.RowKit

theorem keyL_short {k : List UInt8} (h : k.length ≤ 64) : keyL k = k := by unfold keyL; rw [if_neg (by omega)]
theorem padB_sum (k : ByteArray) (c : UInt8) (h : 64 < k.size) : padB (sumB k) c = padB k c := by
  unfold padB
  have h1 : keyL (sumB k).data.toList = keyL k.data.toList := by
    rw [sumB_list, keyL_short (by rw [sumL_len]; decide)]
    unfold keyL; rw [if_pos (by exact h)]
  rw [h1]
theorem padB_noughts (k : ByteArray) (c : UInt8) (m : Nat) (h : k.size + m ≤ 64) : padB (k ++ ⟨(List.replicate m 0).toArray⟩) c = padB k c := by
  have hl : k.data.toList.length = k.size := rfl
  unfold padB
  have h1 : keyL (k ++ ⟨(List.replicate m 0).toArray⟩ : ByteArray).data.toList = k.data.toList ++ List.replicate m 0 := by
    rw [ba_app, keyL_short (by simp; omega)]
  rw [h1, keyL_short (k := k.data.toList) (by omega), padL_app _ _ (by omega)]
theorem hmacB_sum (k s : ByteArray) (h : 64 < k.size) : hmacB (sumB k) s = hmacB k s := by unfold hmacB; rw [padB_sum k _ h, padB_sum k _ h]
theorem hmacB_noughts (k s : ByteArray) (m : Nat) (h : k.size + m ≤ 64) : hmacB (k ++ ⟨(List.replicate m 0).toArray⟩) s = hmacB k s := by unfold hmacB; rw [padB_noughts k _ m h, padB_noughts k _ m h]
set_option maxHeartbeats 4000000 in
set_option maxRecDepth 20000 in
theorem hkeys_walk (key s : ByteArray) (n : Nat) (w : World) (hk : key.size ≤ 200) (hs : s.size ≤ 200) (hn : n ≤ 255) :
    Calls Try.prog 7 #[.string key, .string s, .int .u8 n] w fun e w' => e = .returned (.bool true) ∧ Below w.heap.size w w' := by
  have hmx : ¬ (200 : Int) < max (key.size : Int) s.size := by omega
  have hh := fun b W t B => hsum_row b key [s] s W t B (catB_one s) (by omega) (by omega) (by simp)
  by_cases h64 : 64 < key.size
  · have hki : (64 : Int) < key.size := by omega
    have ht := fun b W t B => text_row b [key] key W t B (catB_one key) (by omega) (by simp)
    have hh2 := fun b W t B => hsum_row b (sumB key) [s] s W t B (catB_one s) (by rw [sumB_size]; omega) (by omega) (by simp)
    rw [hmacB_sum key s h64] at hh2
    obtain ⟨K, hK⟩ : ∃ K, sumB key = K := ⟨_, rfl⟩
    rw [hK] at ht hh2
    have HT := Lib.hid ht
    clear ht hK
    obtain ⟨X, hX⟩ : ∃ X, hmacB key s = X := ⟨_, rfl⟩
    rw [hX] at hh hh2
    have HH := Lib.hid hh; have HH2 := Lib.hid hh2
    clear hh hh2 hX
    go_enter Try.func7, Try.ntmps7
    go_wp2_with fail
    refine (awake04_any w).mono ?_
    rintro e W1 ⟨rfl, hb⟩
    have hbs := hb.size
    go_wp2_with fail
    refine (HH.out W1.heap.size _ 9 ((Blk.new' rfl).conv rfl)).mono ?_
    rintro e W2 ⟨rfl, hb2⟩
    have HB2 : Below w.heap.size w W2 := Below.thn (by (repeat (first | (with_reducible assumption) | (with_reducible exact Below.refl _ _) | with_reducible apply bl_drewN | with_reducible apply Below.drew | (with_reducible apply bl_alloc; focus (first | (simp; done) | (simp; omega) | omega)) | (with_reducible apply bl_set; focus (first | (simp; done) | (simp; omega) | omega))))) hb2
    have HB2s := HB2.size
    clear hb hb2 hbs
    go_wp2_with fail
    refine (HT.out W2.heap.size _ 9 ((Blk.new' rfl).conv rfl)).mono ?_
    rintro e W3 ⟨rfl, hb3⟩
    have HB3 : Below w.heap.size w W3 := Below.thn (by (repeat (first | (with_reducible assumption) | (with_reducible exact Below.refl _ _) | with_reducible apply bl_drewN | with_reducible apply Below.drew | (with_reducible apply bl_alloc; focus (first | (simp; done) | (simp; omega) | omega)) | (with_reducible apply bl_set; focus (first | (simp; done) | (simp; omega) | omega))))) hb3
    have HB3s := HB3.size
    clear hb3
    go_wp2_with fail
    refine (HH2.out W3.heap.size _ 9 ((Blk.new' rfl).conv rfl)).mono ?_
    rintro e W4 ⟨rfl, hb4⟩
    have HB4 : Below w.heap.size w W4 := Below.thn (by (repeat (first | (with_reducible assumption) | (with_reducible exact Below.refl _ _) | with_reducible apply bl_drewN | with_reducible apply Below.drew | (with_reducible apply bl_alloc; focus (first | (simp; done) | (simp; omega) | omega)) | (with_reducible apply bl_set; focus (first | (simp; done) | (simp; omega) | omega))))) hb4
    clear hb4
    go_wp2_with fail
    go_ret
    exact ⟨by simp, HB4⟩
  · have hki : ¬ (64 : Int) < key.size := by omega
    obtain ⟨r, hr⟩ : ∃ r, 65 - key.size = r := ⟨_, rfl⟩
    have hri : (65 : Int) - key.size = (r : Int) := by omega
    have hr0 : ¬ r = 0 := by omega
    have hr1 : ¬ (r : Int) = 0 := by omega
    have r1 : (n : Int).tmod (r : Int) = ((n % r : Nat) : Int) := (Int.ofNat_tmod n r).symm
    have hml : n % r < r := Nat.mod_lt _ (by omega)
    obtain ⟨m, hm⟩ : ∃ m, n % r = m := ⟨_, rfl⟩
    rw [hm] at r1 hml
    have hrep := fun W => rep0_any m W (by omega)
    have hh2 := fun b W t B => hsum_row b (key ++ ⟨(List.replicate m 0).toArray⟩) [s] s W t B (catB_one s) (by rw [ByteArray.size_append]; show key.size + (List.replicate m (0 : UInt8)).length ≤ _; simp; omega) (by omega) (by simp)
    rw [hmacB_noughts key s m (by omega)] at hh2
    obtain ⟨rp, hrp⟩ : ∃ t : ByteArray, ⟨(List.replicate m 0).toArray⟩ = t := ⟨_, rfl⟩
    have hrps : rp.size = m := by rw [← hrp]; show (List.replicate m (0 : UInt8)).length = m; simp
    rw [hrp] at hrep hh2
    have hadd : ∀ W, (Op.stringOp .add key rp).run Try.prog W = .ok (.string (key ++ rp)) W := fun W => run_string_add_sum W _ _ (by omega)
    have HREP := Lib.hid hrep
    clear hrep hrp hrps hm hml hr
    obtain ⟨X, hX⟩ : ∃ X, hmacB key s = X := ⟨_, rfl⟩
    rw [hX] at hh hh2
    have HH := Lib.hid hh; have HH2 := Lib.hid hh2
    clear hh hh2 hX
    go_enter Try.func7, Try.ntmps7
    go_wp2_with fail
    refine (awake04_any w).mono ?_
    rintro e W1 ⟨rfl, hb⟩
    have hbs := hb.size
    go_wp2_with fail
    refine (HH.out W1.heap.size _ 9 ((Blk.new' rfl).conv rfl)).mono ?_
    rintro e W2 ⟨rfl, hb2⟩
    have HB2 : Below w.heap.size w W2 := Below.thn (by (repeat (first | (with_reducible assumption) | (with_reducible exact Below.refl _ _) | with_reducible apply bl_drewN | with_reducible apply Below.drew | (with_reducible apply bl_alloc; focus (first | (simp; done) | (simp; omega) | omega)) | (with_reducible apply bl_set; focus (first | (simp; done) | (simp; omega) | omega))))) hb2
    have HB2s := HB2.size
    clear hb hb2 hbs
    go_wp2_with fail
    refine (HREP.out _).mono ?_
    rintro e W3 ⟨rfl, hb3⟩
    have HB3 : Below w.heap.size w W3 := Below.thn HB2 hb3 HB2s
    have HB3s := HB3.size
    clear hb3
    go_wp2_with fail
    refine (HH2.out W3.heap.size _ 9 ((Blk.new' rfl).conv rfl)).mono ?_
    rintro e W4 ⟨rfl, hb4⟩
    have HB4 : Below w.heap.size w W4 := Below.thn (by (repeat (first | (with_reducible assumption) | (with_reducible exact Below.refl _ _) | with_reducible apply bl_drewN | with_reducible apply Below.drew | (with_reducible apply bl_alloc; focus (first | (simp; done) | (simp; omega) | omega)) | (with_reducible apply bl_set; focus (first | (simp; done) | (simp; omega) | omega))))) hb4
    clear hb4
    go_wp2_with fail
    go_ret
    exact ⟨by simp, HB4⟩
theorem catB_gap (s t : ByteArray) : catB [s, ⟨#[]⟩, t] = s ++ t := by
  apply ba_ext; simp [catB]
set_option maxHeartbeats 4000000 in
set_option maxRecDepth 20000 in
theorem hsums_walk (key s t : ByteArray) (w : World) (hk : key.size ≤ 500) (hs : s.size ≤ 500) (ht : t.size ≤ 500) :
    Calls Try.prog 8 #[.string key, .string s, .string t] w fun e w' => e = .returned (.bool true) ∧ Below w.heap.size w w' := by
  have hmx : ¬ (500 : Int) < max (max (key.size : Int) s.size) t.size := by omega
  have hmx2 : ¬ (500 : Int) < max (key.size : Int) (max (s.size : Int) t.size) := by omega
  have hh := fun b W t' B => hsum_row b key [s, ⟨#[]⟩, t] (s ++ t) W t' B (catB_gap s t) (by omega) (by rw [ByteArray.size_append]; omega) (by simp)
  have hr := fun W => rhsum_any key (s ++ t) W (by omega) (by rw [ByteArray.size_append]; omega)
  have hXs := hmacB_size key (s ++ t)
  obtain ⟨X, hX⟩ : ∃ X, hmacB key (s ++ t) = X := ⟨_, rfl⟩
  rw [hX] at hh hr hXs
  have hs1 := fun W => same_any s t W (by omega) (by omega)
  have hs2 := fun W => same_any X X W (by omega) (by omega)
  rw [decide_eq_true rfl] at hs2
  have hadd : ∀ W, (Op.stringOp .add s t).run Try.prog W = .ok (.string (s ++ t)) W := fun W => run_string_add_sum W _ _ (by omega)
  have HH := Lib.hid hh; have HR := Lib.hid hr; have HS2 := Lib.hid hs2
  have hbe : (s.toList == t.toList) = decide (s = t) := ba_beq s t
  obtain ⟨d, hd⟩ : ∃ d, decide (s = t) = d := ⟨_, rfl⟩
  rw [hd] at hbe hs1
  have HS1 := Lib.hid hs1
  clear hh hr hs1 hs2 hX hXs hd
  by_cases c1 : (key.size : Int) < s.size <;> by_cases c2 : (s.size : Int) < t.size <;> by_cases c3 : (key.size : Int) < t.size
  all_goals try (exfalso; omega)
  all_goals
    go_enter Try.func8, Try.ntmps8
    go_wp2_with fail
    refine (awake04_any w).mono ?_
    rintro e W1 ⟨rfl, hb⟩
    have hbs := hb.size
    go_wp2_with fail
    refine (HH.out W1.heap.size _ 9 ((Blk.new' rfl).conv rfl)).mono ?_
    rintro e W2 ⟨rfl, hb2⟩
    have HB2 : Below w.heap.size w W2 := Below.thn (by (repeat (first | (with_reducible assumption) | (with_reducible exact Below.refl _ _) | with_reducible apply bl_drewN | with_reducible apply Below.drew | (with_reducible apply bl_alloc; focus (first | (simp; done) | (simp; omega) | omega)) | (with_reducible apply bl_set; focus (first | (simp; done) | (simp; omega) | omega))))) hb2
    have HB2s := HB2.size
    clear hb hb2 hbs
    go_wp2_with fail
    refine (HR.out _).mono ?_
    rintro e W3 ⟨rfl, hb3⟩
    have HB3 : Below w.heap.size w W3 := Below.thn HB2 hb3 HB2s
    have HB3s := HB3.size
    clear hb3 HB2
    go_wp2_with fail
    refine (HS1.out _).mono ?_
    rintro e W4 ⟨rfl, hb4⟩
    have HB4 : Below w.heap.size w W4 := Below.thn HB3 hb4 HB3s
    have HB4s := HB4.size
    clear hb4 HB3
    cases d <;>
    · go_wp2_with fail
      refine (HR.out _).mono ?_
      rintro e W5 ⟨rfl, hb5⟩
      have HB5 : Below w.heap.size w W5 := Below.thn HB4 hb5 HB4s
      have HB5s := HB5.size
      clear hb5
      go_wp2_with fail
      refine (HS2.out _).mono ?_
      rintro e W6 ⟨rfl, hb6⟩
      have HB6 : Below w.heap.size w W6 := Below.thn HB5 hb6 HB5s
      clear hb6
      go_wp2_with fail
      go_ret
      exact ⟨rfl, HB6⟩
set_option maxHeartbeats 4000000 in
set_option maxRecDepth 20000 in
theorem hkeys_long (key s : ByteArray) (n : Nat) (w : World) (hmx : (200 : Int) < max (key.size : Int) s.size) : Calls Try.prog 7 #[.string key, .string s, .int .u8 n] w fun e w' => e = .returned (.bool true) ∧ Below w.heap.size w w' := by
  go_enter Try.func7, Try.ntmps7
  go_wp2_with fail
  refine (awake04_any w).mono ?_
  rintro e W1 ⟨rfl, hb⟩
  go_wp2_with fail
  go_ret
  exact ⟨rfl, hb⟩
set_option maxHeartbeats 4000000 in
set_option maxRecDepth 20000 in
theorem hsums_long (key s t : ByteArray) (w : World) (hmx : (500 : Int) < max (max (key.size : Int) s.size) t.size) : Calls Try.prog 8 #[.string key, .string s, .string t] w fun e w' => e = .returned (.bool true) ∧ Below w.heap.size w w' := by
  by_cases c1 : (key.size : Int) < s.size <;> by_cases c2 : (s.size : Int) < t.size <;> by_cases c3 : (key.size : Int) < t.size
  all_goals try (exfalso; omega)
  all_goals
    have hx1 : (500 : Int) < key.size ∨ (500 : Int) < s.size ∨ (500 : Int) < t.size := by omega
    have hx2 : key.size ≤ 500 → (500 : Int) < s.size ∨ (500 : Int) < t.size := by omega
    go_enter Try.func8, Try.ntmps8
    go_wp2_with fail
    refine (awake04_any w).mono ?_
    rintro e W1 ⟨rfl, hb⟩
    go_wp2_with fail
    all_goals first | (go_ret; exact ⟨rfl, hb⟩) | omega
set_option maxHeartbeats 4000000 in
set_option maxRecDepth 20000 in
theorem hder_long (key s : ByteArray) (n : Int) (m : Nat) (w : World) (hmx : (200 : Int) < max (key.size : Int) s.size) : Calls Try.prog 9 #[.string key, .string s, .int .i64 n, .int .u16 m] w fun e w' => e = .returned (.bool true) ∧ Below w.heap.size w w' := by
  go_enter Try.func9, Try.ntmps9
  go_wp2_with fail
  refine (awake04_any w).mono ?_
  rintro e W1 ⟨rfl, hb⟩
  go_wp2_with fail
  go_ret
  exact ⟨rfl, hb⟩
set_option maxHeartbeats 4000000 in
set_option maxRecDepth 20000 in
theorem hchain_long (key s : ByteArray) (n : Nat) (w : World) (hmx : (200 : Int) < max (key.size : Int) s.size) : Calls Try.prog 10 #[.string key, .string s, .int .u8 n] w fun e w' => e = .returned (.bool true) ∧ Below w.heap.size w w' := by
  go_enter Try.func10, Try.ntmps10
  go_wp2_with fail
  refine (awake04_any w).mono ?_
  rintro e W1 ⟨rfl, hb⟩
  go_wp2_with fail
  go_ret
  exact ⟨rfl, hb⟩
set_option maxHeartbeats 4000000 in
set_option maxRecDepth 20000 in
theorem hder_mid (key s : ByteArray) (n : Int) (m : Nat) (w : World) (h1 : ¬ (200 : Int) < max (key.size : Int) s.size) (h2 : 300 < n) (h3 : n ≤ 8160) : Calls Try.prog 9 #[.string key, .string s, .int .i64 n, .int .u16 m] w fun e w' => e = .returned (.bool true) ∧ Below w.heap.size w w' := by
  go_enter Try.func9, Try.ntmps9
  go_wp2_with fail
  refine (awake04_any w).mono ?_
  rintro e W1 ⟨rfl, hb⟩
  go_wp2_with fail
  go_ret
  exact ⟨rfl, hb⟩
set_option maxHeartbeats 4000000 in
set_option maxRecDepth 20000 in
theorem hder_bad (key s : ByteArray) (n : Int) (m : Nat) (w : World) (h1 : ¬ (200 : Int) < max (key.size : Int) s.size) (h2 : n < 0 ∨ 8160 < n) (hlo : -9223372036854775808 ≤ n) (hhi : n ≤ 9223372036854775807) : Calls Try.prog 9 #[.string key, .string s, .int .i64 n, .int .u16 m] w fun e w' => e = .returned (.bool true) ∧ Below w.heap.size w w' := by
  have hbad := fun W => derive_bad key s n W h2
  have HBAD := Lib.hid hbad
  clear hbad
  by_cases h0 : n < 0
  · have h9 : ¬ (300 : Int) < n := by omega
    have h10 : n ≤ 8160 := by omega
    clear h2
    go_enter Try.func9, Try.ntmps9
    go_wp2_with fail
    refine (awake04_any w).mono ?_
    rintro e W1 ⟨rfl, hb⟩
    have hbs := hb.size
    go_wp2_with fail
    refine (HBAD.out _).mono ?_
    rintro e W2 ⟨rfl, hb2⟩
    have HB2 : Below w.heap.size w W2 := Below.thn hb hb2 hbs
    clear hb hb2
    go_wp2_with fail
    go_ret
    exact ⟨rfl, HB2⟩
  · have h8 : (8160 : Int) < n := by omega
    have h9 : (300 : Int) < n := by omega
    have h10 : ¬ n ≤ 8160 := by omega
    clear h2
    go_enter Try.func9, Try.ntmps9
    go_wp2_with fail
    refine (awake04_any w).mono ?_
    rintro e W1 ⟨rfl, hb⟩
    have hbs := hb.size
    go_wp2_with fail
    refine (HBAD.out _).mono ?_
    rintro e W2 ⟨rfl, hb2⟩
    have HB2 : Below w.heap.size w W2 := Below.thn hb hb2 hbs
    clear hb hb2
    go_wp2_with fail
    go_ret
    exact ⟨rfl, HB2⟩
set_option maxHeartbeats 4000000 in
set_option maxRecDepth 20000 in
theorem hder_walk (key s : ByteArray) (n m : Nat) (w : World) (h1 : ¬ (200 : Int) < max (key.size : Int) s.size) (hk : key.size ≤ 200) (hs : s.size ≤ 200) (hn : n ≤ 300) (_ : m ≤ 65535) : Calls Try.prog 9 #[.string key, .string s, .int .i64 n, .int .u16 m] w fun e w' => e = .returned (.bool true) ∧ Below w.heap.size w w' := by
  have g1 : ¬ (300 : Int) < n := by omega
  have g2 : (n : Int) ≤ 8160 := by omega
  have g3 : ¬ (n : Int) < 0 := by omega
  have g4 : ¬ (8160 : Int) < n := by omega
  have r1 : (m : Int).tmod 100 = ((m % 100 : Nat) : Int) := (Int.ofNat_tmod m 100).symm
  have r2 : (m : Int) % 100 = ((m % 100 : Nat) : Int) := by simp
  obtain ⟨q, hq⟩ : ∃ q, m % 100 = q := ⟨_, rfl⟩
  rw [hq] at r1 r2
  have hq100 : q < 100 := by omega
  obtain ⟨nq, hnq⟩ : ∃ q2, n + q = q2 := ⟨_, rfl⟩
  have hnqi : (n : Int) + q = (nq : Int) := by omega
  have d1 := fun W => derive_any key s n W (by omega) (by omega) (by omega)
  have d2 := fun W => derive_any key s nq W (by omega) (by omega) (by omega)
  have d3 := fun W => rderive_any key s n W (by omega) (by omega) (by omega)
  have hp := derB_pre key s n q
  rw [hnq] at hp
  obtain ⟨X, hX⟩ : ∃ X, derB key s n = X := ⟨_, rfl⟩
  obtain ⟨Y, hY⟩ : ∃ X, derB key s nq = X := ⟨_, rfl⟩
  rw [hX] at d1 d3 hp; rw [hY] at d2 hp
  have hpre := fun W => Try.strings_HasPrefix Y X W
  rw [hp] at hpre
  have D1 := Lib.hid d1; have D2 := Lib.hid d2; have D3 := Lib.hid d3; have HP := Lib.hid hpre
  clear d1 d2 d3 hp hX hY hpre hq hnq
  go_enter Try.func9, Try.ntmps9
  go_wp2_with fail
  refine (awake04_any w).mono ?_
  rintro e W1 ⟨rfl, hb⟩
  have hbs := hb.size
  go_wp2_with fail
  refine (D1.out _).mono ?_
  rintro e W2 ⟨rfl, hb2⟩
  have HB2 : Below w.heap.size w W2 := Below.thn hb hb2 hbs
  have HB2s := HB2.size
  clear hb hb2
  go_wp2_with fail
  refine (D2.out _).mono ?_
  rintro e W3 ⟨rfl, hb3⟩
  have HB3 : Below w.heap.size w W3 := Below.thn HB2 hb3 HB2s
  have HB3s := HB3.size
  clear hb3 HB2
  go_wp2_with fail
  refine (D3.out _).mono ?_
  rintro e W4 ⟨rfl, hb4⟩
  have HB4 : Below w.heap.size w W4 := Below.thn HB3 hb4 HB3s
  clear hb4 HB3
  go_wp2_with fail
  refine (HP.out _).mono ?_
  rintro e W5 ⟨rfl, rfl⟩
  go_wp2_with fail
  go_ret
  exact ⟨rfl, HB4⟩
theorem derB_zero (key label : ByteArray) : derB key label 0 = ⟨#[]⟩ := by
  apply ba_ext; rw [derB_list]; simp
set_option maxHeartbeats 4000000 in
set_option maxRecDepth 20000 in
theorem hchain_walk (key s : ByteArray) (n : Nat) (w : World) (h1 : ¬ (200 : Int) < max (key.size : Int) s.size) (hk : key.size ≤ 200) (hs : s.size ≤ 200) (_ : n ≤ 255) : Calls Try.prog 10 #[.string key, .string s, .int .u8 n] w fun e w' => e = .returned (.bool true) ∧ Below w.heap.size w w' := by
  have r1 : (n : Int).tmod 8 = ((n % 8 : Nat) : Int) := (Int.ofNat_tmod n 8).symm
  have r2 : (n : Int) % 8 = ((n % 8 : Nat) : Int) := by simp
  obtain ⟨q, hq⟩ : ∃ q, n % 8 = q := ⟨_, rfl⟩
  rw [hq] at r1 r2
  have hq8 : q < 8 := by omega
  obtain ⟨k, hk1⟩ : ∃ q2, 1 + q = q2 := ⟨_, rfl⟩
  have hki : (1 : Int) + q = (k : Int) := by omega
  have hk8 : k ≤ 8 := by omega
  obtain ⟨k32, hk32⟩ : ∃ q2, 32 * k = q2 := ⟨_, rfl⟩
  have hk32i : (32 : Int) * k = (k32 : Int) := by omega
  have d1 := fun W => derive_any key s k32 W (by omega) (by omega) (by omega)
  have d0 := fun W => derive_any key s 0 W (by omega) (by omega) (by omega)
  rw [derB_zero] at d0
  have hds := derB_size key s k32
  have hat := fun i (h : i < k) => derB_at key s k i h
  rw [hk32] at hat
  obtain ⟨X, hX⟩ : ∃ X, derB key s k32 = X := ⟨_, rfl⟩
  rw [hX] at d1 hds hat
  have D1 := Lib.hid d1; have D0 := Lib.hid d0; have HAT := Lib.hid hat; have HK := Lib.hid hk32
  have hdi : (X.size : Int) = (k32 : Int) := by omega
  have hk256 : k32 ≤ 256 := by omega
  have HDS := Lib.hid hds
  clear d1 d0 hX hat hq hk1 hk32 hds
  go_enter Try.func10, Try.ntmps10
  go_wp2_with fail
  refine (awake04_any w).mono ?_
  rintro e W1 ⟨rfl, hb⟩
  have hbs := hb.size
  go_wp2_with fail
  refine (D1.out _).mono ?_
  rintro e W2 ⟨rfl, hb2⟩
  have HB2 : Below w.heap.size w W2 := Below.thn hb hb2 hbs
  have HB2s := HB2.size
  clear hb hb2
  go_wp2_with fail
  refine (D0.out _).mono ?_
  rintro e W3 ⟨rfl, hb3⟩
  have HB3 : Below w.heap.size w W3 := Below.thn HB2 hb3 HB2s
  clear hb3 HB2
  go_wp2_with fail
  go_loopg [12, 59] k (fun gk t12 t59 wr => ∃ i : Nat, t59 = .int .i64 i ∧ i + gk = k ∧ t12 = .string (lastB key s i) ∧ Below w.heap.size w wr)
  case atStart => exact ⟨0, rfl, by omega, rfl, HB3⟩
  case round =>
    clear HB3
    obtain ⟨i, rfl, hi, rfl, HB⟩ := hrel
    have hls := lastB_size key s i
    have HBs := HB.size
    obtain ⟨L, hL⟩ : ∃ A, lastB key s i = A := ⟨_, rfl⟩
    rw [hL] at hls ⊢
    cases gk with
    | zero =>
      have hlt : ¬ (i : Int) < k := by omega
      clear hi hL
      go_wp2_with fail
      go_ret
      exact ⟨rfl, HB⟩
    | succ gk =>
      have hlt : (i : Int) < k := by omega
      have hil : i < k := by omega
      obtain ⟨i1, hi1⟩ : ∃ j, i + 1 = j := ⟨_, rfl⟩
      have hi1i : (i : Int) + 1 = (i1 : Int) := by omega
      have hi18 : i1 ≤ 8 := by omega
      have himod : (i1 : Int) % 256 = (i1 : Int) := by omega
      obtain ⟨p, hp⟩ : ∃ p, 32 * i = p := ⟨_, rfl⟩
      have hpi : (32 : Int) * i = (p : Int) := by omega
      obtain ⟨p4, hp4⟩ : ∃ q, p + 32 = q := ⟨_, rfl⟩
      have hp4i : (p : Int) + 32 = (p4 : Int) := by omega
      have hple : (p : Int) ≤ (p4 : Int) := by omega
      have hk32e := HK.out
      have hpls : (p4 : Int) ≤ X.size := by omega
      have hp4b : p4 ≤ 256 := by omega
      have hpx : X.extract p p4 = lastB key s i1 := by rw [← hp4, ← hp, ← hi1]; exact HAT.out i hil
      obtain ⟨c, hc⟩ : ∃ c : ByteArray, (⟨#[UInt8.ofNat i1]⟩ : ByteArray) = c := ⟨_, rfl⟩
      have hcs : c.size = 1 := by rw [← hc]; rfl
      have hcast := fun b W B => cast_byte b i1 W B (by omega)
      rw [hc] at hcast
      have hh := fun b W t B => hsum_row b key [L, s, c] (L ++ s ++ c) W t B (catB_three _ _ _) (by omega) (by rw [ByteArray.size_append, ByteArray.size_append]; omega) (by simp)
      have hlast : hmacB key (L ++ s ++ c) = lastB key s i1 := by rw [← hi1, lastB, ← hc, ← hi1, hL]
      rw [hlast] at hh
      obtain ⟨Y, hY⟩ : ∃ X, lastB key s i1 = X := ⟨_, rfl⟩
      rw [hY] at hh hpx
      have HH := Lib.hid hh; have HI := Lib.hid hi; have HI1 := Lib.hid hi1; have HY := Lib.hid hY
      have hcv := hcast wr.heap.size (wr.alloc (.cells #[.int .u8 ((i1 : Nat) : Int)] 5)) (Blk.new' rfl)
      clear hcast hh hlast hi hi1 hY hL hc hcs hls hp hp4 hk32e
      go_wp2_with fail
      refine (HH.out (wr.heap.size + 1) _ 9 ((Blk.new' (by simp)).conv rfl)).mono ?_
      rintro e W6 ⟨rfl, hb6⟩
      have HB6 : Below w.heap.size w W6 := Below.thn (by (repeat (first | (with_reducible assumption) | (with_reducible exact Below.refl _ _) | with_reducible apply bl_drewN | with_reducible apply Below.drew | (with_reducible apply bl_alloc; focus (first | (simp; done) | (simp; omega) | omega)) | (with_reducible apply bl_set; focus (first | (simp; done) | (simp; omega) | omega))))) hb6 (by simp; omega)
      clear hb6 hcv
      go_wp2_with fail
      go_roundg gk
      case rel => exact ⟨i1, by simp; try omega, by have := HI.out; have := HI1.out; omega, by rw [HY.out], HB6⟩
      case measure => omega
end Go.Proofs.Ytgceepjfnncilaa
