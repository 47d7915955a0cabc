/- Package hmac: Sum, Same; the document's Sum. -/
import Derived.Test.YtgceepjfnncilaaHmac1
namespace Go.Proofs.Ytgceepjfnncilaa
open Go.RowKit

theorem catB_two (A B : ByteArray) : catB [A, B] = A ++ B := by
  apply ba_ext; simp [catB]
set_option maxHeartbeats 4000000 in
set_option maxRecDepth 20000 in
theorem hsum_any (key : ByteArray) (v : Value) (T : ByteArray) (w : World) (hk : key.size ≤ 5000) (hT : T.size ≤ 5000)
    (hJ : ∀ W, Below w.heap.size w W → Calls Try.prog 38 #[v, .string ⟨#[]⟩] W fun e w' => e = .returned (.string T) ∧ Below W.heap.size W w') :
    Calls Try.prog 27 #[.string key, v] w fun e w' => e = .returned (.string (hmacB key T)) ∧ Below w.heap.size w w' := by
  have hp1 := fun W => pad_any key 92 W hk
  have hp2 := fun W => pad_any key 54 W hk
  have hAs := padB_size key 92
  have hBs := padB_size key 54
  have hres : hmacB key T = sumB (padB key 92 ++ sumB (padB key 54 ++ T)) := rfl
  rw [show (((92 : UInt8).toNat : Nat) : Int) = 92 from rfl] at hp1
  rw [show (((54 : UInt8).toNat : Nat) : Int) = 54 from rfl] at hp2
  obtain ⟨A, hA⟩ : ∃ A, padB key 92 = A := ⟨_, rfl⟩
  obtain ⟨B, hB⟩ : ∃ A, padB key 54 = A := ⟨_, rfl⟩
  rw [hA] at hp1 hAs hres; rw [hB] at hp2 hBs hres
  have ht1 := fun b W t Bk => text_row b [B, T] (B ++ T) W t Bk (catB_two _ _) (by rw [ByteArray.size_append]; omega) (by simp)
  have hXs : (sumB (B ++ T)).size = 32 := sumB_size _
  obtain ⟨X, hX⟩ : ∃ X, sumB (B ++ T) = X := ⟨_, rfl⟩
  rw [hX] at ht1 hres hXs
  have ht2 := fun b W t Bk => text_row b [A, X] (A ++ X) W t Bk (catB_two _ _) (by rw [ByteArray.size_append]; omega) (by simp)
  rw [← hres] at ht2
  obtain ⟨Y, hY⟩ : ∃ Y, hmacB key T = Y := ⟨_, rfl⟩
  rw [hY] at ht2 ⊢
  have HP1 := Lib.hid hp1; have HP2 := Lib.hid hp2; have HT1 := Lib.hid ht1; have HT2 := Lib.hid ht2; have HJ := Lib.hid hJ
  clear hp1 hp2 ht1 ht2 hres hX hA hB hY hJ hXs hAs hBs
  go_enter Try.func27, Try.ntmps27
  go_wp2_with fail
  refine (HP1.out _).mono ?_
  rintro e W1 ⟨rfl, hb1⟩
  have hb1s := hb1.size
  go_wp2_with fail
  refine (HP2.out _).mono ?_
  rintro e W2 ⟨rfl, hb2⟩
  have HB2 := Below.thn hb1 hb2 hb1s
  have HB2s := HB2.size
  clear hb1 hb2 hb1s
  go_wp2_with fail
  refine (HJ.out _ HB2).mono ?_
  rintro e W3 ⟨rfl, hb3⟩
  have HB3 := Below.thn HB2 hb3 HB2s
  have HB3s := HB3.size
  clear hb3 HB2 HB2s
  go_wp2_with fail
  refine (HT1.out W3.heap.size _ 9 ((Blk.new' rfl).conv rfl)).mono ?_
  rintro e W4 ⟨rfl, hb4⟩
  have HB4 : Below w.heap.size w W4 := Below.thn (by (repeat (first | (with_reducible assumption) | (with_reducible exact Below.refl _ _) | with_reducible apply bl_drewN | with_reducible apply Below.drew | (with_reducible apply bl_alloc; focus (first | (simp; done) | (simp; omega) | omega)) | (with_reducible apply bl_set; focus (first | (simp; done) | (simp; omega) | omega))))) hb4
  have HB4s := HB4.size
  clear hb4 HB3
  go_wp2_with fail
  refine (HT2.out W4.heap.size _ 9 ((Blk.new' rfl).conv rfl)).mono ?_
  rintro e W5 ⟨rfl, hb5⟩
  have HB5 : Below w.heap.size w W5 := Below.thn (by (repeat (first | (with_reducible assumption) | (with_reducible exact Below.refl _ _) | with_reducible apply bl_drewN | with_reducible apply Below.drew | (with_reducible apply bl_alloc; focus (first | (simp; done) | (simp; omega) | omega)) | (with_reducible apply bl_set; focus (first | (simp; done) | (simp; omega) | omega))))) hb5
  clear hb5 HB4
  go_wp2_with fail
  go_ret
  exact ⟨rfl, HB5⟩
/-- .. of parts that lie in a row. -/
theorem hsum_row (b : Nat) (key : ByteArray) (xs : List ByteArray) (T : ByteArray) (W : World) (t : TypeId) (B : Blk W b (xs.map Value.string).toArray t) (hx : catB xs = T) (hk : key.size ≤ 5000) (hT : T.size ≤ 5000) (hn : xs.length ≤ 1000) :
    Calls Try.prog 27 #[.string key, .slice (some ⟨b, 0, none⟩) xs.length xs.length] W fun e w' => e = .returned (.string (hmacB key T)) ∧ Below W.heap.size W w' :=
  hsum_any key _ T W hk hT (fun W' hb => by
    have := join_row b xs W W' t B (by rw [hx]; omega) hn hb
    rw [hx] at this; exact this)
/-! Same. -/
theorem or_xor_zero (d a c : UInt8) : ((d ||| (a ^^^ c)) = 0) ↔ d = 0 ∧ a = c := by
  rw [UInt8.or_eq_zero_iff, UInt8.xor_eq_zero_iff]
theorem take_eq_iff {l m : List UInt8} {i n : Nat} (hl : l.length = n) (hm : m.length = n) (hi : i < n) : (l.take (i + 1) = m.take (i + 1)) ↔ l.take i = m.take i ∧ l.getD i 0 = m.getD i 0 := by
  rw [List.take_add_one, List.take_add_one, List.getElem?_eq_getElem (by omega : i < l.length), List.getElem?_eq_getElem (by omega : i < m.length), List.getD_eq_getElem?_getD, List.getD_eq_getElem?_getD, List.getElem?_eq_getElem (by omega : i < l.length), List.getElem?_eq_getElem (by omega : i < m.length)]
  simp only [Option.toList, Option.getD_some]
  constructor
  · intro h
    have h1 := List.append_inj h (by simp; omega)
    exact ⟨h1.1, by simpa using h1.2⟩
  · rintro ⟨h1, h2⟩; rw [h1, h2]
set_option maxHeartbeats 4000000 in
set_option maxRecDepth 20000 in
theorem same_any (a c : ByteArray) (w : World) (ha : a.size ≤ 100000) (hc : c.size ≤ 100000) :
    Calls Try.prog 29 #[.string a, .string c] w fun e w' => e = .returned (.bool (decide (a = c))) ∧ Below w.heap.size w w' := by
  obtain ⟨n, hn⟩ : ∃ n, a.size = n := ⟨_, rfl⟩
  by_cases hs : a.size = c.size
  · have hc2 : c.size = n := by omega
    obtain ⟨E, hE⟩ : ∃ p : Bool, decide (a = c) = p := ⟨_, rfl⟩
    have hfin : decide (a.data.toList.take n = c.data.toList.take n) = E := by
      rw [← hE, List.take_of_length_le (show a.data.toList.length ≤ n from Nat.le_of_eq hn), List.take_of_length_le (show c.data.toList.length ≤ n from Nat.le_of_eq hc2)]
      exact decide_eq_decide.2 ba_ext_iff.symm
    rw [hE]
    have HF := Lib.hid hfin; have HN := Lib.hid hn; have HC := Lib.hid hc2
    clear hE hfin hs
    rw [hn] at ha
    go_enter Try.func29, Try.ntmps29
    go_wp2_with fail
    go_loopg [5, 14] n (fun gk t5 t14 wr => ∃ (i : Nat) (d : UInt8), t14 = .int .i64 i ∧ t5 = .int .u8 ((d.toNat : Nat) : Int) ∧ i + gk = n ∧ (d = 0 ↔ a.data.toList.take i = c.data.toList.take i) ∧ Below w.heap.size w wr)
    case atStart => exact ⟨0, 0, rfl, rfl, by omega, by simp, Below.refl _ _⟩
    case round =>
      obtain ⟨i, d, rfl, rfl, hi, hd, HB⟩ := hrel
      cases gk with
      | zero =>
        have hin : ¬ (i : Int) < n := by omega
        obtain rfl : i = n := by omega
        have hres : (((d.toNat : Nat) : Int) == 0) = E := by
          rw [← HF.out]
          by_cases h0 : d = 0
          · rw [decide_eq_true (hd.1 h0), h0]; rfl
          · rw [decide_eq_false (fun h => h0 (hd.2 h))]
            have : d.toNat ≠ 0 := fun h => h0 (UInt8.toNat_inj.1 h)
            simp; omega
        have HR := Lib.hid hres
        clear hd hi hres
        go_wp2_with fail
        go_ret
        refine ⟨?_, HB⟩
        rw [← HR.out]; simp
      | succ gk =>
        have hin : (i : Int) < n := by omega
        have hil : i < n := by omega
        have hia : i < a.size := by rw [HN.out]; exact hil
        have hic : i < c.size := by rw [HC.out]; exact hil
        obtain ⟨x, hx⟩ : ∃ x, a.data.toList.getD i 0 = x := ⟨_, rfl⟩
        obtain ⟨y, hy⟩ : ∃ x, c.data.toList.getD i 0 = x := ⟨_, rfl⟩
        have e1 : a[i]'hia = x := by rw [← hx, List.getD_eq_getElem?_getD, List.getElem?_eq_getElem (show i < a.data.toList.length from hia)]; rfl
        have e2 : c[i]'hic = y := by rw [← hy, List.getD_eq_getElem?_getD, List.getElem?_eq_getElem (show i < c.data.toList.length from hic)]; rfl
        have hd2 : ((d ||| (x ^^^ y)) = 0) ↔ a.data.toList.take (i + 1) = c.data.toList.take (i + 1) := by
          rw [or_xor_zero, take_eq_iff (show a.data.toList.length = n from HN.out) (show c.data.toList.length = n from HC.out) hil, ← hd, hx, hy]
        have x1 := sum_xor8 x y
        obtain ⟨z, hz⟩ : ∃ z, x ^^^ y = z := ⟨_, rfl⟩
        rw [hz] at x1 hd2
        have x2 : bits .or .u8 ((d.toNat : Nat) : Int) ((z.toNat : Nat) : Int) = (((d ||| z).toNat : Nat) : Int) := by
          rw [u8_or_nat _ _ d.toNat_lt z.toNat_lt]; simp
        obtain ⟨d2, hd2e⟩ : ∃ z2, d ||| z = z2 := ⟨_, rfl⟩
        rw [hd2e] at x2 hd2
        have HD := Lib.hid hd2; have HI := Lib.hid hi
        clear hd hd2 hz hd2e hi hx hy
        go_wp2_with fail
        refine wp_region_gr (by kernel_rfl) (by kernel_rfl) ?_
        repeat (first
          | go_big_quiet_skip
          | ((refine BigFrame.wpQuiet_want rfl (fun K hK => quiet_mk ?_)); apply Exists.intro; refine ⟨fun wq hq => ?_, hK _ ?_⟩
             · go_simp; (try simp only [↓IntWalk.iteOmega]); (try go_bits)
               first | done | rfl | exact ⟨rfl, rfl⟩ | exact ⟨trivial, rfl⟩
             clear hK K; (try simp only [Act.put, List.setIfInBounds_toArray, List.set_cons_zero, List.set_cons_succ])))
        refine wpQuiet_nil ?_
        intro W2 hw2
        have HB2 := Below.thn HB hw2.out HB.size
        clear hw2
        go_wp2_with fail
        go_roundg gk
        case rel => exact ⟨i + 1, d2, by simp, rfl, by have := HI.out; omega, HD.out, HB2⟩
        case measure => omega
  · have hne : ¬ (a = c) := fun h => hs (by rw [h])
    rw [decide_eq_false hne]
    have h1 : ¬ (a.size : Int) = c.size := by omega
    clear hn
    go_enter Try.func29, Try.ntmps29
    go_wp2_with fail
    go_ret
    exact ⟨rfl, Below.refl _ _⟩
end Go.Proofs.Ytgceepjfnncilaa
