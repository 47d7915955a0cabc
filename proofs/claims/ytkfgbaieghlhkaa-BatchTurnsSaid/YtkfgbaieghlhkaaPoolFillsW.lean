/- PoolFills: the walk. -/
import Derived.Test.YtkfgbaieghlhkaaPoolAwake
import Derived.Deep.RegionHeld3
namespace Go.Proofs.Ytkfgbaieghlhkaa
open Go.RowKit

theorem heldL_first (l : List Buf) (k : Nat) : ∀ m, (∀ i, i < m → (l.getD i default).held = decide (i < k)) → (heldL l m).length = min m k
  | 0, _ => by simp [heldL]
  | m + 1, h => by
    have ih := heldL_first l k m (fun i hi => h i (by omega))
    have hm := h m (by omega)
    by_cases hk : m < k
    · rw [heldL_hit l m (by rw [hm]; simp [hk]), List.length_append, ih]; simp; omega
    · rw [heldL_miss l m (by rw [hm]; simp [hk]), ih]; omega
theorem held_set (l : List Buf) (i j : Nat) (x : Buf) (h : i < l.length) : ((l.set i x).getD j default).held = if i = j then x.held else (l.getD j default).held := by
  by_cases e : i = j
  · subst e; rw [getD_set_self _ _ _ h, if_pos rfl]
  · rw [getD_set_other _ _ _ _ e, if_neg e]

theorem make_bools (n : Nat) (w : World) (hn : n ≤ 256) :
    (Instr.makeSlice 31 (.int .i64 (n : Int)) (.int .i64 (n : Int))).run Try.prog w = .ok (.slice (some ⟨w.heap.size, 0, none⟩) n n) (w.alloc (.cells (madeCells #[.bool false] n) 4)) :=
  run_make_row' 31 4 (.bool false) 1 Try.underlying31 (by kernel_rfl) rfl .i64 .i64 n (by omega) (by omega) w
theorem Turn.cell {pb B : Nat} {w w' : World} (h : Turn pb B w w') {p : Addr} (hp : p.block < w.heap.size) (h1 : p.block ≠ pb) (h2 : p.block ≠ B) : w'.cell? p = w.cell? p := World.cell?_of_block (h.block p.block hp h1 h2)

theorem PoolAt.other {w : World} {pb B n ever fb i : Nat} {l : List Buf} {v : Value} (h : PoolAt w pb B n l ever) (h1 : pb ≠ fb) (h2 : B ≠ fb) : PoolAt (w.setCell ⟨fb, i, none⟩ v) pb B n l ever :=
  ⟨h.hd.set_ne h1, h.row.setOther (by exact h2) v, h.len, h.fit, h.ne, h.most⟩

/-- The texts' bytes. -/
structure BytesAt (w : World) (b off len : Nat) (bs : List Nat) : Prop where
  lt : 0 < len → b < w.heap.size
  cell : ∀ j, j < len → w.cell? ⟨b, off + j, none⟩ = some (.int .u8 (bs.getD j 0 : Nat))
  small : ∀ j, j < len → bs.getD j 0 ≤ 255
theorem BytesAt.below {w w' : World} {b off len : Nat} {bs : List Nat} (h : BytesAt w b off len bs) (g : Below w.heap.size w w') : BytesAt w' b off len bs :=
  ⟨fun h0 => Nat.lt_of_lt_of_le (h.lt h0) g.size, fun j hj => (g.cell (p := ⟨b, off + j, none⟩) (h.lt (by omega))).trans (h.cell j hj), h.small⟩

theorem fills_step {l : List Buf} {k m i : Nat} (hlen : l.length = k) (hik : i < k) (hA : ∀ x, x < m → (l.getD x default).held = true) (hT : m < k → (l.getD m default).held = false) :
    (∀ x, x < min m i → ((l.set i ⟨false, ⟨#[]⟩⟩).getD x default).held = true) ∧ (min m i < k → ((l.set i ⟨false, ⟨#[]⟩⟩).getD (min m i) default).held = false) := by
  refine ⟨fun x hx => ?_, fun h => ?_⟩
  · rw [held_set _ _ _ _ (by omega), if_neg (by omega)]; exact hA x (by omega)
  · rw [held_set _ _ _ _ (by omega)]
    by_cases e : i = min m i
    · rw [if_pos e]
    · rw [if_neg e, show min m i = m by omega]; exact hT (by omega)
theorem fills_row {l : List Buf} {k i : Nat} (hlen : l.length = k) (hik : i < k) (x : Nat) :
    (if x = i then Value.bool true else Value.bool (!(l.getD x default).held)) = Value.bool (!((l.set i ⟨false, ⟨#[]⟩⟩).getD x default).held) := by
  rw [held_set _ _ _ _ (by omega)]
  by_cases e : x = i
  · rw [if_pos e, if_pos e.symm]; rfl
  · rw [if_neg e, if_neg (fun h => e h.symm)]

set_option maxHeartbeats 4000000 in
set_option maxRecDepth 20000 in
theorem fills_walk (n b off len cap : Nat) (ao : Option Addr) (bs : List Nat) (w : World) (h1 : 1 ≤ n) (h2 : n ≤ 256) (hl : len ≤ 40) (hao : 0 < len → ao = some ⟨b, off, none⟩) (hbs : BytesAt w b off len bs) :
    Calls Try.prog 3 #[.int .i64 n, .slice ao len cap] w fun e w' => e = .returned (.bool true) ∧ Below w.heap.size w w' := by
  have g1 : ¬ (n : Int) < 1 := by omega
  have g2 : ¬ (256 : Int) < n := by omega
  have g3 : ¬ (40 : Int) < len := by omega
  go_enter Try.func3, Try.ntmps3
  go_wp2_with fail
  refine (awake08 _).mono ?_
  rintro e w1 ⟨rfl, HB⟩
  have HBs := HB.size
  go_wp2_with fail
  refine (new_any n _ (by omega) (by omega)).mono ?_
  rintro e w2 ⟨pb, B, rfl, P, hpb, hB, hb⟩
  have HB2 := Below.thn HB hb HBs
  have HBs2 := HB2.size
  have hpb' : w.heap.size ≤ pb := by omega
  have hB' : w.heap.size ≤ B := by omega
  clear hb HB HBs hpb hB
  go_wp2_with fail
  go_loopg [40] n (fun g t40 wr => ∃ (k : Nat) (l : List Buf), t40 = .int .i64 k ∧ k + g = n ∧ PoolAt wr pb B n l k ∧ Below w.heap.size w wr ∧ ∀ i, i < n → (l.getD i default).held = decide (i < k))
  case atStart => exact ⟨0, fresh n, rfl, by omega, P, HB2, fun i hi => by rw [fresh_get n i hi]; simp⟩
  case round =>
    clear P HB2 HBs2
    obtain ⟨k, l, rfl, hk, P, HB, hH⟩ := hrel
    have HBs := HB.size
    have HK := Lib.hid hk
    cases gk with
    | zero =>
      have hk' : ¬ (k : Int) < n := by omega
      have hkn : k = n := by omega
      clear hk
      have hall : ∀ j, j < n → (l.getD j default).held = true := fun j hj => by rw [hH j hj]; simp; omega
      have HH := Lib.hid hall
      obtain rfl := hkn
      clear hall hH
      go_wp2_with fail
      refine (get_none pb B k k l ⟨#[120]⟩ _ P (by decide) HH.out).mono ?_
      rintro e w3 ⟨rfl, hb⟩
      have HB3 := Below.thn HB hb HBs
      have P3 := P.below hb
      have hmk := make_bools k w3 h2
      have R := World.rowIs_made w3 (.bool false) k 4
      have hlt1 := P3.lt
      have hlt2 := P3.hd.lt
      have P4 := P3.below (Below.alloc (Below.refl _ _) (Nat.le_refl _) (.cells (madeCells #[.bool false] k) 4))
      have HB4 := HB3.alloc HB3.size (.cells (madeCells #[.bool false] k) 4)
      have hfbw : w.heap.size ≤ w3.heap.size := HB3.size
      clear HB HBs P hb HB3 P3
      obtain ⟨w4, hw4⟩ : ∃ w4, w3.alloc (.cells (madeCells #[.bool false] k) 4) = w4 := ⟨_, rfl⟩
      rw [hw4] at hmk R P4 HB4
      clear hw4
      obtain ⟨fb, hfb⟩ : ∃ fb, w3.heap.size = fb := ⟨_, rfl⟩
      rw [hfb] at hlt1 hlt2 hfbw R hmk
      clear hfb
      have hR : Hid (w4.rowIs fb 4 k (fun i => .bool (!(l.getD i default).held))) := Lib.hid (R.congr fun i hi => by rw [HH.out i hi]; rfl)
      have hP := Lib.hid P4
      clear R P4
      go_wp2_with fail
      go_loopg [13, 77] len (fun g t13 t77 wx => ∃ (j m : Nat) (l : List Buf), t77 = .int .i64 j ∧ t13 = .int .i64 m ∧ j + g = len ∧ PoolAt wx pb B k l k ∧ Below w.heap.size w wx ∧
        wx.rowIs fb 4 k (fun i => .bool (!(l.getD i default).held)) ∧ m ≤ k ∧ (∀ i, i < m → (l.getD i default).held = true) ∧ (m < k → (l.getD m default).held = false))
      case atStart => exact ⟨0, k, l, rfl, rfl, by omega, hP.out, HB4, hR.out, by omega, HH.out, fun h => absurd h (by omega)⟩
      case round =>
        clear HB4 hR hP hmk HH HK
        obtain ⟨j, m, l, rfl, rfl, hj, P, HB, R, hmk, hall, hat⟩ := hrel
        have HBs := HB.size
        have HA := Lib.hid hall
        have HT := Lib.hid hat
        have HJ := Lib.hid hj
        clear hall hat
        cases gk with
        | zero =>
          have hj' : ¬ (j : Int) < len := by omega
          clear hj
          by_cases hmk2 : m = k
          · subst hmk2
            go_wp2_with fail
            refine (get_none pb B m m l ⟨#[121]⟩ _ P (by decide) HA.out).mono ?_
            rintro e w5 ⟨rfl, hb⟩
            go_wp2
            go_ret
            exact ⟨rfl, Below.thn HB hb HBs⟩
          · have hmk3 : ¬ ((m : Int) = k) := by omega
            have hmk4 : (m : Int) < k := by omega
            go_wp2_with fail
            refine (get_some pb B k k m l ⟨#[121]⟩ _ P (by decide) (by omega) HA.out (HT.out (by omega)) (by omega)).mono ?_
            rintro e w5 ⟨rfl, T, P5⟩
            have HB5 := HB.trans (T.below HBs hpb' hB')
            clear T P P5
            go_wp2
            go_ret
            exact ⟨rfl, HB5⟩
        | succ g =>
          have hj' : (j : Int) < len := by omega
          have hjl : j < len := by omega
          clear hj
          obtain rfl := hao (by omega)
          have hb2 := hbs.below HB
          have hbc := hb2.cell j hjl
          have hbb := hb2.small j hjl
          generalize bs.getD j 0 = y at hbc hbb
          obtain ⟨i, hi⟩ : ∃ i, i = y % k := ⟨_, rfl⟩
          have hik : i < k := by rw [hi]; exact Nat.mod_lt _ (by omega)
          have hrem : (y : Int).tmod k = (i : Int) := by rw [hi]; rfl
          clear hi hb2
          have hfc := R.cell hik
          have hff := R.frozen i
          cases hh : (l.getD i default).held with
          | true =>
            rw [hh] at hfc
            have H2 := Lib.hid hh
            clear hh
            have hfc1 : wr.cell? ⟨fb, i, none⟩ = some (.bool false) := hfc
            have hRx := Lib.hid R
            have hRlt := R.lt
            clear hfc R
            go_wp2_with fail
            go_region_held3 (fun W => W.cell? ⟨fb, i, none⟩ = some (.bool false)) (first | exact hfc1 | exact (T.cell (p := ⟨fb, i, none⟩) hRlt (by show fb ≠ pb; omega) (by show fb ≠ B; omega)).trans hfc1)
              (first | (go_at_call 14; refine (put_ok pb B k k i l _ P.drew (by omega) H2.out).mono ?_; rintro e w5 ⟨rfl, T, P5⟩))
            have T5 := ((Turn.refl pb B wr).drew).trans T
            have HB5 := HB.trans (T5.below HBs hpb' hB')
            have HBs5 := HB5.size
            have R5 := hRx.out.of_block (T5.block fb hRlt (by omega) (by omega))
            have hc5 := (T5.cell (p := ⟨fb, i, none⟩) hRlt (by show fb ≠ pb; omega) (by show fb ≠ B; omega)).trans hfc1
            have hf5 := R5.frozen i
            have hR5 := Lib.hid R5
            have hP5 := Lib.hid P5
            have hlen := Lib.hid P.len
            clear T T5 HB HBs hfc1 hff hRx P R5 P5 hRlt
            go_wp2_with fail
            go_roundg g
            case rel =>
              have hst := fills_step hlen.out hik HA.out HT.out
              exact ⟨j + 1, min m i, l.set i ⟨false, ⟨#[]⟩⟩, by simp, congrArg (Value.int .i64) (by omega), by have := HJ.out; omega, hP5.out.other (by omega) (by omega), HB5.setCell (p := ⟨fb, i, none⟩) hfbw _,
                (hR5.out.set i _).congr (fun x _ => fills_row hlen.out hik x), by omega, hst.1, hst.2⟩
            case measure => omega
          | false =>
            rw [hh] at hfc
            have H2 := Lib.hid hh
            clear hh
            have hfc1 : wr.cell? ⟨fb, i, none⟩ = some (.bool true) := hfc
            have hRx := Lib.hid R
            have hRlt := R.lt
            clear hfc R
            go_wp2_with fail
            go_region_held3 (fun W => W.cell? ⟨fb, i, none⟩ = some (.bool true)) (first | exact hfc1 | exact (hb5.cell (p := ⟨fb, i, none⟩) hRlt).trans hfc1)
              (first | (go_at_call 14; refine (put_bad pb B k k i l _ P.drew (Or.inr (Or.inr ⟨i, rfl, hik, H2.out⟩))).mono ?_; rintro e w5 ⟨rfl, hb5⟩))
            have hb6 : Below wr.heap.size wr w5 := (Below.refl _ _).drew.trans hb5
            have HB5 := Below.thn HB hb6 HBs
            have R5 := hRx.out.of_block (hb6.block fb hRlt)
            have hc5 := (hb6.cell (p := ⟨fb, i, none⟩) hRlt).trans hfc1
            have hf5 := R5.frozen i
            have hR5 := Lib.hid R5
            have hP5 := Lib.hid (P.below hb6)
            have hlen := Lib.hid P.len
            clear hb5 hb6 HB HBs hfc1 hff hRx P R5 hRlt
            go_wp2_with fail
            go_roundg g
            case rel =>
              have hmi : m ≤ i := by
                rcases Nat.lt_or_ge i m with h | h
                · have := HA.out i h
                  rw [H2.out] at this; cases this
                · exact h
              exact ⟨j + 1, m, l, by simp, congrArg (Value.int .i64) (by omega), by have := HJ.out; omega, hP5.out.other (by omega) (by omega), HB5.setCell (p := ⟨fb, i, none⟩) hfbw _,
                (hR5.out.set i _).congr (fun x _ => by
                  by_cases e : x = i
                  · subst e; rw [if_pos rfl, H2.out]; rfl
                  · rw [if_neg e]), hmk, HA.out, HT.out⟩
            case measure => omega
    | succ g =>
      have hk' : (k : Int) < n := by omega
      have hkn : k < n := by omega
      clear hk
      have HH := Lib.hid hH
      clear hH
      go_wp2_with fail
      refine (get_some pb B n k k l ⟨#[120]⟩ _ P (by decide) (by omega) (fun j hj => by rw [HH.out j (by omega)]; simp; omega) (by rw [HH.out k (by omega)]; simp) (by omega)).mono ?_
      rintro e w3 ⟨rfl, T, P3⟩
      have HB3 := HB.trans (T.below HBs hpb' hB')
      have HBs3 := HB3.size
      have hlen := P.len
      have hH3 : ∀ i, i < n → ((l.set k ⟨true, ⟨#[120]⟩⟩).getD i default).held = decide (i < k + 1) := fun i hi => by
        rw [held_set _ _ _ _ (by omega)]
        by_cases e : k = i
        · subst e; simp
        · rw [if_neg e, HH.out i hi]; simp; omega
      have HF : Hid ((freeN (l.set k ⟨true, ⟨#[120]⟩⟩) n : Int) = (n : Int) - 1 - k) := Lib.hid (by
        have := heldL_first _ (k + 1) n hH3
        unfold freeN; omega)
      have H3 := Lib.hid hH3
      clear T P HB HBs hH3 HH hlen
      generalize l.set k ⟨true, ⟨#[120]⟩⟩ = l3 at P3 HF H3
      go_wp2_with fail
      refine (freeN_any pb B n (k + 1) l3 _ P3).mono ?_
      rintro e w4 ⟨rfl, hb⟩
      have HB4 := Below.thn HB3 hb HBs3
      have P4 := P3.below hb
      have hf := HF.out
      clear HB3 HBs3 P3 hb
      rw [hf]
      clear hf
      go_wp2_with fail
      go_roundg g
      case rel => exact ⟨k + 1, l3, by simp, by have := HK.out; omega, P4, HB4, H3.out⟩
      case measure => omega
end Go.Proofs.Ytkfgbaieghlhkaa
