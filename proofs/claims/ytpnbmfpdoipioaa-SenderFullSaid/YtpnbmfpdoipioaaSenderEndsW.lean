/- SenderEnds: the walk. -/
import Derived.Test.YtpnbmfpdoipioaaSndNext
import Derived.Test.YtpnbmfpdoipioaaLawKit
namespace Go.Proofs.Ytpnbmfpdoipioaa
open Go.RowKit

structure SAct where
  d : Nat
  t : ByteArray
  n : Nat
  la : Nat
  wt : Nat
  bt : Nat
  deriving Inhabited
structure SActsAt (w : World) (b off len : Nat) (l : List SAct) : Prop where
  lt : 0 < len → b < w.heap.size
  c0 : ∀ j, j < len → w.cell? ⟨b, off + j * 6, none⟩ = some (.int .u8 (l.getD j default).d)
  c1 : ∀ j, j < len → w.cell? ⟨b, off + j * 6 + 1, none⟩ = some (.string (l.getD j default).t)
  c2 : ∀ j, j < len → w.cell? ⟨b, off + j * 6 + 2, none⟩ = some (.int .u64 (l.getD j default).n)
  c3 : ∀ j, j < len → w.cell? ⟨b, off + j * 6 + 3, none⟩ = some (.int .u64 (l.getD j default).la)
  c4 : ∀ j, j < len → w.cell? ⟨b, off + j * 6 + 4, none⟩ = some (.int .u64 (l.getD j default).wt)
  c5 : ∀ j, j < len → w.cell? ⟨b, off + j * 6 + 5, none⟩ = some (.int .u64 (l.getD j default).bt)
  small : ∀ j, j < len → (l.getD j default).d ≤ 255 ∧ (l.getD j default).n ≤ 18446744073709551615 ∧ (l.getD j default).la ≤ 18446744073709551615 ∧ (l.getD j default).wt ≤ 18446744073709551615 ∧ (l.getD j default).bt ≤ 18446744073709551615
theorem SActsAt.below {w w' : World} {b off len : Nat} {l : List SAct} (h : SActsAt w b off len l) (g : Below w.heap.size w w') : SActsAt w' b off len l :=
  ⟨fun h0 => Nat.lt_of_lt_of_le (h.lt h0) g.size, fun j hj => (g.cell (p := ⟨b, _, none⟩) (h.lt (by omega))).trans (h.c0 j hj), fun j hj => (g.cell (p := ⟨b, _, none⟩) (h.lt (by omega))).trans (h.c1 j hj),
    fun j hj => (g.cell (p := ⟨b, _, none⟩) (h.lt (by omega))).trans (h.c2 j hj), fun j hj => (g.cell (p := ⟨b, _, none⟩) (h.lt (by omega))).trans (h.c3 j hj), fun j hj => (g.cell (p := ⟨b, _, none⟩) (h.lt (by omega))).trans (h.c4 j hj),
    fun j hj => (g.cell (p := ⟨b, _, none⟩) (h.lt (by omega))).trans (h.c5 j hj), h.small⟩
theorem BA_set5 {w : World} {b b' : Nat} {cs : Array Value} {t : TypeId} (B : Blk w b' cs t) (hne : b' ≠ b) (v0 v1 v2 v3 v4 : Value) : Blk (((((w.setCell ⟨b, 0, none⟩ v0).setCell ⟨b, 1, none⟩ v1).setCell ⟨b, 2, none⟩ v2).setCell ⟨b, 3, none⟩ v3).setCell ⟨b, 4, none⟩ v4) b' cs t :=
  ⟨((heap_set5 w b v0 v1 v2 v3 v4).1 b' hne).trans B.out⟩
theorem SenderAt.pos' {w : World} {v : Value} {l : List SSt} {now : ByteArray} {last : Nat} (h : SenderAt w v l now last) : 0 < l.length := by
  obtain ⟨_, _, _, _, _, _, L, _⟩ := h; exact L.pos.1
theorem SenderAt.len8 {w : World} {v : Value} {l : List SSt} {now : ByteArray} {last : Nat} (h : SenderAt w v l now last) : l.length ≤ 8 := by
  obtain ⟨_, _, _, _, _, _, L, _⟩ := h; exact L.pos.2
/-- The law's variable holds a sender. -/
def VarAt (w0 w : World) (b5 : Nat) (l : List SSt) (cur : ByteArray) (last : Nat) : Prop :=
  ∃ (a : Option Addr) (m c : Nat), Blk w b5 #[fDiff, fSame, .slice a m c, .string cur, .int .u64 last] 31 ∧ SenderAt w (SV (.slice a m c) cur last) l cur last ∧ Below w0.heap.size w0 w

set_option maxHeartbeats 4000000 in
set_option maxRecDepth 20000 in
theorem ends_walk (first : ByteArray) (b off len cap : Nat) (ao : Option Addr) (acts : List SAct) (w : World) (hf : first.size ≤ 100) (hl : len ≤ 30) (hao : 0 < len → ao = some ⟨b, off, none⟩) (hacts : SActsAt w b off len acts) :
    Calls Try.prog 3 #[.string first, .slice ao len cap] w fun e w' => e = .returned (.bool true) ∧ Below w.heap.size w w' := by
  have g1 : ¬ (30 : Int) < len := by omega
  have g2 : ¬ (100 : Int) < first.size := by omega
  go_enter Try.func3, Try.ntmps3
  go_wp2_with fail
  refine (awake15 _).mono ?_
  rintro e w0 ⟨rfl, HB0⟩
  have HBs0 := HB0.size
  go_wp2_with fail
  refine (rule_any _).mono ?_
  rintro e w1 ⟨rfl, hb⟩
  have HB1 := Below.thn HB0 hb HBs0
  have HBs1 := HB1.size
  go_wp2_with fail
  refine (new_any first _ (by omega)).mono ?_
  rintro e w2 ⟨v, rfl, S2, hb⟩
  have HB2 := Below.thn HB1 hb HBs1
  have HBs2 := HB2.size
  obtain ⟨sa, sn, sc, hsl⟩ := S2.form
  subst hsl
  clear HB1 HB0 hb
  go_wp2_with fail
  have V3 : VarAt w (w2.alloc (.cells #[fDiff, fSame, .slice sa sn sc, .string first, .int .u64 0] 31)) w2.heap.size [⟨0, 0, first⟩] first 0 :=
    ⟨sa, sn, sc, Blk.new w2 _ _, S2.below ((Below.refl _ _).alloc (Nat.le_refl _) _), HB2.alloc HBs2 _⟩
  have R3 : Rise [⟨0, 0, first⟩] 0 0 0 := ⟨by simp, fun j hj => by
    obtain rfl : j = 0 := by simp at hj; exact hj
    rfl, Nat.le_refl _, Nat.le_refl _, Nat.le_refl _⟩
  obtain ⟨b5, hb5⟩ : ∃ b5, w2.heap.size = b5 := ⟨_, rfl⟩
  rw [hb5] at V3
  have hb5w : w.heap.size ≤ b5 := by omega
  generalize w2.alloc (.cells #[fDiff, fSame, .slice sa sn sc, .string first, .int .u64 0] 31) = W3 at *
  rw [hb5]
  clear hb5 S2 HB2 HBs2
  go_loopg [6, 29] len (fun g t6 t29 wr => ∃ (k tm last : Nat) (l : List SSt) (cur : ByteArray), t6 = .int .u64 tm ∧ t29 = .int .i64 k ∧ k + g = len ∧ tm ≤ 1000 * k ∧ Rise l last tm k ∧ VarAt w wr b5 l cur last)
  case atStart => exact ⟨0, 0, 0, _, first, rfl, rfl, by omega, by omega, R3, V3⟩
  case round =>
    clear R3 V3
    obtain ⟨k, tm, last, l, cur, rfl, rfl, hk, htm, R, V⟩ := hrel
    obtain ⟨a, m, c, B, S, HB⟩ := V
    have HBs := HB.size
    have HK := Lib.hid hk
    have Bc := B.cell; have Bf := B.frozen; have Bl := B.lt
    cases gk with
    | zero =>
      have hk' : ¬ (k : Int) < len := by omega
      have hk30 : k ≤ 30 := by omega
      clear hk Bc Bf Bl
      go_wp2_with fail
      go_loopg [6, 91] 4 (fun g t6 t91 wr => ∃ (i tm last : Nat) (l : List SSt), t6 = .int .u64 tm ∧ t91 = .int .i64 i ∧ i + g = 4 ∧ tm ≤ 1000 * (k + i) ∧ Rise l last tm (k + i) ∧ VarAt w wr b5 l cur last ∧ (1 ≤ i → l.length = 1) ∧ (2 ≤ i → (l.getD 0 default).val = cur))
      case atStart => exact ⟨0, tm, last, l, rfl, rfl, by omega, by omega, R, ⟨a, m, c, B, S, HB⟩, by omega, by omega⟩
      case round =>
        clear R B S HB htm
        obtain ⟨i, tm, last, l, rfl, rfl, hi, htm, R, V, hl1, hl2⟩ := hrel
        obtain ⟨a, m, c, B, S, HB⟩ := V
        have HBs := HB.size
        have HI := Lib.hid hi
        have Bc := B.cell; have Bf := B.frozen; have Bl := B.lt
        cases gk with
        | zero =>
          have hi' : ¬ (i : Int) < 4 := by omega
          have hq : quietB l cur = true := by
            have h1 := hl1 (by omega)
            have h2 := hl2 (by omega)
            unfold quietB
            rw [h1, h2]
            simp
          have HQ := Lib.hid hq
          clear hi hq hl1 hl2
          go_wp2_with fail
          refine (sq_any _ _ _ _ _ S).mono ?_
          rintro e w5 ⟨rfl, hb⟩
          rw [HQ.out]
          go_wp2
          go_ret
          exact ⟨rfl, Below.thn HB hb HBs⟩
        | succ g =>
          have hi' : (i : Int) < 4 := by omega
          have hnum := R.top
          obtain ⟨T, hT⟩ : ∃ T, T = tm + 1000 := ⟨_, rfl⟩
          have hnd := R.due cur (by omega)
          rw [← hT] at hnd
          have hrn := R.next cur T
          have hat := hrn.ackTop
          have hra := (hrn.ack (topS (nextL l cur T)).num).mono (tm' := T) (k' := k + (i + 1)) (Nat.le_refl _) (by omega)
          rw [hat] at hra
          have hva : l.length = 1 → (topS (nextL l cur T)).val = cur := next_val cur T
          have HA := Lib.hid hra
          have HT := Lib.hid hat
          have HV := Lib.hid hva
          have HL1 := Lib.hid hl1
          have htm2 : T ≤ 34000 := by omega
          have htT : T ≤ 1000 * (k + (i + 1)) := by omega
          have hcast : (tm : Int) + 1000 = (T : Int) := by omega
          clear hi hrn hat hra hva hl1 hl2 R hT
          go_wp2_with fail
          refine (next_ok _ _ _ last T 1000 1000 0 _ S (by omega) (by omega) (by omega) (by omega) hnd).mono ?_
          rintro e W2 ⟨v2, rfl, S2, hb⟩
          obtain ⟨a2, m2, c2, h2⟩ := S2.form
          subst h2
          have B2 := B.below hb
          have HB2 := Below.thn HB hb HBs
          have HBs2 := HB2.size
          obtain ⟨nl, hnl⟩ : ∃ nl, nextL l cur T = nl := ⟨_, rfl⟩
          rw [hnl] at HA HT HV S2 ⊢
          obtain ⟨xt, hxt⟩ : ∃ xt, topS nl = xt := ⟨_, rfl⟩
          obtain ⟨x0, hx0⟩ : ∃ x0, nl.getD 0 default = x0 := ⟨_, rfl⟩
          rw [hxt] at HA HT HV ⊢
          rw [hx0]
          clear B Bc Bf Bl S HB hb hnd hnl hxt hx0 hcast
          have Bc := B2.cell; have Bf := B2.frozen; have Bl := B2.lt
          obtain ⟨Q1, Q2, Q3⟩ := snd_store B2 S2
          have Q3 := Q3 _ _ HB2 hb5w
          have Q3s := Q3.size
          go_wp2_with fail
          refine (acked_any _ _ xt.num _ _ _ (Q2.below (by (repeat (first | (with_reducible assumption) | (with_reducible exact Below.refl _ _) | with_reducible apply bl_drewN | with_reducible apply Below.drew | (with_reducible apply bl_alloc; focus (first | (simp; done) | (simp; omega) | omega)) | (with_reducible apply bl_set; focus (first | (simp; done) | (simp; omega) | omega))))))).mono ?_
          rintro e W4 ⟨v4, rfl, S4, hb⟩
          rw [HT.out] at S4
          obtain ⟨a4, m4, c4, h4⟩ := S4.form
          subst h4
          have B4 := Blk.below (b := b5) (t := 31) (by (repeat (first | (with_reducible assumption) | (with_reducible apply Blk.new'; (first | (with_reducible rfl) | (simp; done))) | with_reducible apply Blk.alloc | with_reducible apply Blk.set | ((with_reducible apply Blk.set_ne); focus (first | (simp; done) | (simp; omega))) | with_reducible apply Blk.drewN | with_reducible apply Blk.drew))) hb
          have HB4 : Below w.heap.size w W4 := Below.thn (by (repeat (first | (with_reducible assumption) | (with_reducible exact Below.refl _ _) | with_reducible apply bl_drewN | with_reducible apply Below.drew | (with_reducible apply bl_alloc; focus (first | (simp; done) | (simp; omega) | omega)) | (with_reducible apply bl_set; focus (first | (simp; done) | (simp; omega) | omega))))) hb (by first | omega | (simp; omega))
          clear B2 Bc Bf Bl S2 HB2 HBs2 Q1 Q2 Q3 Q3s hb
          have Bc := B4.cell; have Bf := B4.frozen; have Bl := B4.lt
          go_wp2_with fail
          obtain ⟨Q1, Q2, Q3⟩ := snd_store (B4.conv rfl) S4
          have Q3 := Q3 _ _ HB4 hb5w
          clear B4 S4 HB4 Bc Bf Bl
          go_roundg g
          case rel => exact ⟨i + 1, T, T, [xt], by simp, by simp, by have := HI.out; omega, htT, HA.out, ⟨a4, m4, c4, Q1, Q2, Q3⟩, fun _ => rfl, fun h => HV.out (HL1.out (by omega))⟩
          case measure => omega
    | succ g =>
      have hk' : (k : Int) < len := by omega
      have hkn : k < len := by omega
      clear hk
      obtain rfl := hao (by omega)
      have ha := hacts.below HB
      have hc0 := ha.c0 k hkn; have hc1 := ha.c1 k hkn; have hc2 := ha.c2 k hkn; have hc3 := ha.c3 k hkn; have hc4 := ha.c4 k hkn; have hc5 := ha.c5 k hkn
      have hsm := ha.small k hkn
      generalize acts.getD k default = x at hc0 hc1 hc2 hc3 hc4 hc5 hsm
      obtain ⟨d, t, n, la, wt, bt⟩ := x
      simp only at hc0 hc1 hc2 hc3 hc4 hc5 hsm
      clear ha
      by_cases hbig : 100 < t.size
      · have hbig' : (100 : Int) < t.size := by omega
        clear S B R
        go_wp2
        go_ret
        exact ⟨rfl, by (repeat (first | (with_reducible assumption) | (with_reducible exact Below.refl _ _) | with_reducible apply bl_drewN | with_reducible apply Below.drew | (with_reducible apply bl_alloc; focus (first | (simp; done) | (simp; omega) | omega)) | (with_reducible apply bl_set; focus (first | (simp; done) | (simp; omega) | omega))))⟩
      · have hbig' : ¬ (100 : Int) < t.size := by omega
        obtain ⟨r1, hr1⟩ : ∃ r, r = la % 1000 := ⟨_, rfl⟩
        have hr1t : (la : Int).tmod 1000 = (r1 : Int) := by rw [hr1]; rfl
        have hr1l : r1 < 1000 := by omega
        obtain ⟨r2, hr2⟩ : ∃ r, r = wt % 1000 := ⟨_, rfl⟩
        have hr2t : (wt : Int).tmod 1000 = (r2 : Int) := by rw [hr2]; rfl
        have hr2l : r2 < 1000 := by omega
        obtain ⟨r3, hr3⟩ : ∃ r, r = bt % 1000 := ⟨_, rfl⟩
        have hr3t : (bt : Int).tmod 1000 = (r3 : Int) := by rw [hr3]; rfl
        have hr3l : r3 < 1000 := by omega
        obtain ⟨q2, hq2⟩ : ∃ r, r = d % 2 := ⟨_, rfl⟩
        have hq2t : (d : Int).tmod 2 = (q2 : Int) := by rw [hq2]; rfl
        obtain ⟨q5, hq5⟩ : ∃ r, r = d % 5 := ⟨_, rfl⟩
        have hq5t : (d : Int).tmod 5 = (q5 : Int) := by rw [hq5]; rfl
        have htm2 : tm ≤ 30000 := by omega
        obtain ⟨T, hT⟩ : ∃ T, T = tm + r1 := ⟨_, rfl⟩
        have hadd : (tm : Int) + r1 = (T : Int) := by omega
        have htT : T ≤ 1000 * (k + 1) := by omega
        have hT2 : T ≤ 40000 := by omega
        have hTm : tm ≤ T := by omega
        clear hr1 hr2 hr3 hq2 hq5 hbig hT
        go_upto_if 45 with fail
        refine wp_abs2 (n := wr.heap.size) (w := wr) wr.heap.size 35 b5 31 (by (repeat (first | (with_reducible assumption) | (with_reducible exact Below.refl _ _) | with_reducible apply bl_drewN | with_reducible apply Below.drew | (with_reducible apply bl_alloc; focus (first | (simp; done) | (simp; omega) | omega)) | (with_reducible apply bl_set; focus (first | (simp; done) | (simp; omega) | omega))))) (by (repeat (first | (with_reducible assumption) | (with_reducible apply Blk.new'; (first | (with_reducible rfl) | (simp; done))) | with_reducible apply Blk.alloc | with_reducible apply Blk.set | ((with_reducible apply Blk.set_ne); focus (first | (simp; done) | (simp; omega))) | with_reducible apply Blk.drewN | with_reducible apply Blk.drew))) (by (repeat (first | (with_reducible assumption) | (with_reducible apply Blk.new'; (first | (with_reducible rfl) | (simp; done))) | with_reducible apply Blk.alloc | with_reducible apply Blk.set | ((with_reducible apply Blk.set_ne); focus (first | (simp; done) | (simp; omega))) | with_reducible apply Blk.drewN | with_reducible apply Blk.drew))) (fun W1 hb1 BA BB => ?_)
        have V1 : VarAt w W1 b5 l cur last := ⟨a, m, c, BB, S.below hb1, Below.thn HB hb1 HBs⟩
        have hAb : b5 ≠ wr.heap.size := by omega
        clear B Bc Bf Bl S HB BB hb1 hc0 hc1 hc2 hc3 hc4 hc5
        generalize wr.heap.size = A at *
        go_cut [] (fun wx => ∃ cur, VarAt w wx b5 l cur last ∧ Blk wx A #[.int .u8 d, .string t, .int .u64 n, .int .u64 la, .int .u64 wt, .int .u64 bt] 35)
        case first =>
          by_cases hz : q2 = 0
          · subst hz
            obtain ⟨a, m, c, B, S, HB⟩ := V1
            have Bc := B.cell; have BAc := BA.cell
            have HBs := HB.size
            go_wp2_with fail
            refine (set_any _ _ _ t _ _ S (by omega)).mono ?_
            rintro e W2 ⟨v2, rfl, S2, hb⟩
            obtain ⟨a2, m2, c2, h2⟩ := S2.form
            subst h2
            have B2 := B.below hb
            have BA2 := BA.below hb
            have HB2 := Below.thn HB hb HBs
            clear B Bc BA BAc S HB hb
            have Bc := B2.cell; have Bf := B2.frozen
            go_wp2_with fail
            obtain ⟨Q1, Q2, Q3⟩ := snd_store B2 S2
            have Q4 := BA_set5 (b := b5) BA2 (fun e => hAb e.symm) fDiff fSame (.slice a2 m2 c2) (.string t) (.int .u64 last)
            have Q3 := Q3 _ _ HB2 hb5w
            clear B2 BA2 S2 HB2 Bc Bf
            go_meet
            case rel => exact ⟨t, ⟨a2, m2, c2, Q1, Q2, Q3⟩, Q4⟩
          · have hz' : ¬ (q2 : Int) = 0 := by omega
            go_wp2_with fail
            go_meet
            case rel => exact ⟨cur, V1, BA⟩
        case rest =>
          clear V1 BA
          obtain ⟨cur, V1, BA⟩ := hcut
          obtain ⟨a, m, c, B, S, HB⟩ := V1
          have HBs := HB.size
          have Bc := B.cell; have BAc := BA.cell
          have R1 := R.mono (tm' := T) (k' := k) hTm (Nat.le_refl _)
          have htop := R.top
          go_wp2_with fail
          refine (snext_any _ _ _ _ T r2 r3 0 _ S (by omega) (by omega) (by omega) (by omega)).mono ?_
          rintro e W2 ⟨a2, m2, c2, l2, last2, i, ok, rfl, S2, hwent, hb⟩
          have R2 := hwent.rise R1
          have B2 := B.below hb
          have BA2 := BA.below hb
          have HB2 := Below.thn HB hb HBs
          clear B Bc BA BAc S HB hb R R1
          have Bc := B2.cell; have Bf := B2.frozen
          obtain ⟨Q1, Q2, Q3⟩ := snd_store B2 S2
          have Q4 := BA_set5 (b := b5) BA2 (fun e => hAb e.symm) fDiff fSame (.slice a2 m2 c2) (.string cur) (.int .u64 last2)
          have Q3 := Q3 _ _ HB2 hb5w
          clear B2 BA2 S2 HB2
          go_wp2_with fail
          refine (snum_any _ _ _ _ _ Q2).mono ?_
          rintro e W3 ⟨vn, rfl, hn, hb⟩
          have V4 := Lib.hid Q1
          have HB4 := Below.thn Q3 hb Q3.size
          have B4 := Q1.below hb
          have S4 := Q2.below hb
          have BA4 := Q4.below hb
          obtain ⟨gn, cn, rfl, _, _, hcn⟩ := own_reads hn S4.pos'
          have hnl : ∀ j, j < l2.length → W3.cell? ⟨gn, j, none⟩ = some (.int .u64 (((l2.getD 0 default).num : Int) + j)) := fun j hj => by
            rw [hcn j (by omega)]
            have := R2.con j hj
            rw [getD_get l2 j hj] at this
            simp only [nums, List.getElem?_map, List.getElem?_eq_getElem hj, Option.map_some]
            rw [this]; rfl
          have h20 := R2.top
          have h2n : (l2.getD 0 default).num ≤ 1000 := by have := R2.topNum; omega
          have hl28 := S4.len8
          obtain ⟨n0, hn0⟩ : ∃ n0, (l2.getD 0 default).num = n0 := ⟨_, rfl⟩
          rw [hn0] at hnl h2n
          have hgl := (hn.lt gn rfl).2
          clear hn hb hcn Q1 Q2 Q3 Q4 V4 hn0
          go_wp2_with fail
          go_loopg [67] l2.length (fun g t67 wx => ∃ j : Nat, t67 = .int .i64 j ∧ j + g = l2.length ∧ Below W3.heap.size W3 wx)
          case atStart => exact ⟨0, rfl, by omega, Below.refl _ _⟩
          case round =>
            rename_i wq
            obtain ⟨j, rfl, hj, HX⟩ := hrel
            have HJ := Lib.hid hj
            have HXs := HX.size
            cases gk with
            | zero =>
              have hj' : ¬ (j : Int) < l2.length := by omega
              clear hj hnl
              have B5 := B4.below HX
              have S5 := S4.below HX
              have BA5 := BA4.below HX
              have HB5 := Below.thn HB4 HX HB4.size
              have HBs5 := HB5.size
              clear B4 S4 BA4 HB4 HX
              have Bc := B5.cell; have Bf := B5.frozen; have BAc := BA5.cell
              by_cases hz : q5 = 0
              · subst hz
                go_wp2_with fail
                refine (acked_any _ _ n _ _ _ S5).mono ?_
                rintro e W6 ⟨v6, rfl, S6, hb⟩
                obtain ⟨a6, m6, c6, h6⟩ := S6.form
                subst h6
                have B6 := B5.below hb
                have HB6 := Below.thn HB5 hb HBs5
                clear B5 S5 BA5 HB5 Bc Bf BAc hb
                have Bc := B6.cell; have Bf := B6.frozen
                go_wp2_with fail
                obtain ⟨Q1, Q2, Q3⟩ := snd_store B6 S6
                have Q3 := Q3 _ _ HB6 hb5w
                clear B6 S6 HB6 Bc Bf
                go_roundg g
                case rel => exact ⟨k + 1, T, last2, ackL l2 n, cur, rfl, by simp, by have := HK.out; omega, htT, R2.ack n, ⟨a6, m6, c6, Q1, Q2, Q3⟩⟩
                case measure => omega
              · have hz' : ¬ (q5 : Int) = 0 := by omega
                go_wp2_with fail
                go_roundg g
                case rel => exact ⟨k + 1, T, last2, l2, cur, rfl, by simp, by have := HK.out; omega, htT, R2, ⟨a2, m2, c2, B5, S5, HB5⟩⟩
                case measure => omega
            | succ g2 =>
              have hj' : (j : Int) < l2.length := by omega
              have hjl : j < l2.length := by omega
              clear hj
              have hx := (HX.cell (p := ⟨gn, j, none⟩) hgl).trans (hnl j hjl)
              have hy := (HX.cell (p := ⟨gn, 0, none⟩) hgl).trans (hnl 0 (by omega))
              simp only [Int.natCast_zero, Int.add_zero] at hy
              have h0l : (0 : Int) < l2.length := by omega
              go_wp2_with fail
              go_quiet (fail)
              go_wp2_with fail
              go_roundg g2
              case rel => exact ⟨j + 1, by simp, by have := HJ.out; omega, Below.thn HX (Below.drewN' (Nat.le_refl _) _) HXs⟩
              case measure => omega
end Go.Proofs.Ytpnbmfpdoipioaa
