/- Package word: Put; package sha: Whole. Package sha: Whole. Package sha: Sum. Package sha: Text. Package word: Cut; the first chapter's example. The first chapter's example; the third one's. -/
import Derived.Test.YtkblkdojmfgneaaSha5
import Derived.Test.YtkblkdojmfgneaaBRow
import Derived.Test.YtkblkdojmfgneaaOwn
namespace Go.Proofs.Ytkblkdojmfgneaa
open Go.RowKit

/-- A number's bytes, k of them. -/
def putB (n k : Nat) : List UInt8 := (List.range k).map fun i => UInt8.ofNat (n / 256 ^ (k - 1 - i))
theorem info5 : (Try.prog.info? 5).map (fun i => (i.zero, i.size, i.bytes)) = some (some (.int .u8 0), 1, 1) := by kernel_rfl
theorem putB_len (n k : Nat) : (putB n k).length = k := by simp [putB]
theorem putB_get (n k j : Nat) (h : j < k) : (putB n k).drop j = UInt8.ofNat (n / 256 ^ (k - 1 - j)) :: (putB n k).drop (j + 1) := by
  have hl : j < (putB n k).length := by rw [putB_len]; exact h
  rw [List.drop_eq_getElem_cons hl]
  congr 1
  simp [putB]
theorem own_brow {w : World} {base g n : Nat} {l : List UInt8} (h : w.ownsRow base 5 1 (.slice (some ⟨g, 0, none⟩) n n) n (l.map bval)) (hn : 0 < n) (hl : l.length = n) : BRow w g l := by
  rcases h.2 with ⟨_, h5⟩ | ⟨q, c, cur, h5, h6, h7, h8, h9, h10, h11⟩
  · omega
  · simp only [Value.slice.injEq, Option.some.injEq, Addr.mk.injEq, and_true, true_and] at h5
    obtain ⟨rfl, _⟩ := h5
    refine ⟨(Array.getElem?_eq_some_iff.1 h7).1, fun i hi => ?_, fun i hi => ?_⟩
    · have h12 : (cur.toList.take (n * 1))[i]? = cur.toList[i]? := List.getElem?_take_of_lt (by omega)
      rw [h11] at h12
      have B : Blk w g cur 5 := ⟨h7⟩
      rw [B.cell, ← Array.getElem?_toList, ← h12, List.getElem?_map, List.getD_eq_getElem?_getD, List.getElem?_eq_getElem hi]
      rfl
    · have B : Blk w g cur 5 := ⟨h7⟩
      exact B.frozen i
set_option maxHeartbeats 4000000 in
set_option maxRecDepth 20000 in
theorem wput_any (n k : Nat) (w : World) (hn : n ≤ 18446744073709551615) (h1 : 1 ≤ k) (h8 : k ≤ 8) :
    Calls Try.prog 51 #[.int .u64 n, .int .i64 k] w fun e w' => e = .returned (.string ⟨(putB n k).toArray⟩) ∧ Below w.heap.size w w' := by
  have hm1 : max (k : Int) 0 = k := by omega
  have hm2 : min (k : Int) 8 = k := by omega
  obtain ⟨i0, hi0, hz0, hz1, hz2⟩ := info_parts info5
  go_enter Try.func51, Try.ntmps51
  go_wp2_with (refine wpList_make_full _ rfl _ _ 36 rfl w.heap.size 5 i0 _ 1 Try.underlying36 hi0 hz0 hz1 .i64 .i64 _ _ k rfl rfl rfl rfl ?c1 ?c2 (Nat.le_refl _) ?_)
  case c1 => rw [hz2]; omega
  case c2 => unfold maxLen; omega
  intro W1 ho hg
  have e : (madeCells #[Value.int .u8 0] k).toList = (List.replicate k (0 : UInt8)).map bval := by
    apply List.ext_getElem
    · simp [madeCells]
    · intro i h1 h2
      simp [madeCells, bval, Nat.mod_one]
  rw [e] at ho
  have hrow : BRow W1 w.heap.size (List.replicate k 0) := own_brow ho (by omega) (by simp)
  have HB1 : Below w.heap.size w W1 := (Below.refl _ _).grown hg (Nat.le_refl _) (fun q hq => by cases hq)
  clear ho hg
  go_wp2_with fail
  go_loopg [0, 6] k (fun g t0 t6 wr => t0 = .int .u64 ((n / 256 ^ (k - g) : Nat) : Int) ∧ t6 = .int .i64 ((g : Int) - 1) ∧ g ≤ k ∧ Below w.heap.size w wr ∧ BRow wr w.heap.size (List.replicate g 0 ++ (putB n k).drop g))
  case atStart => exact ⟨by rw [Nat.sub_self, Nat.pow_zero, Nat.div_one], rfl, Nat.le_refl _, HB1, by rw [List.drop_of_length_le (by rw [putB_len]; exact Nat.le_refl _), List.append_nil]; exact hrow⟩
  case round =>
    clear HB1 hrow
    obtain ⟨rfl, rfl, hg, HB, R⟩ := hrel
    have HBs := HB.size
    cases gk with
    | zero =>
      have hneg : ¬ (0 : Int) ≤ ((0 : Nat) : Int) - 1 := by omega
      have hcv : (convert 36 9 (.slice (some ⟨w.heap.size, 0, none⟩) k k)).run Try.prog wr = .ok (.string ⟨(putB n k).toArray⟩) wr := by
        have h5 := Lib.run_convert_whole (P := Try.prog) wr 36 5 9 Try.underlying36 Try.underlying5 Try.underlying9 w.heap.size 0 ⟨(putB n k).toArray⟩ (row_bytes R) k
        rw [show (⟨(putB n k).toArray⟩ : ByteArray).size = k from putB_len n k] at h5
        exact h5
      go_wp2_with fail
      go_ret
      exact ⟨rfl, HB⟩
    | succ g =>
      obtain ⟨m, hm⟩ : ∃ m, n / 256 ^ (k - (g + 1)) = m := ⟨_, rfl⟩
      have hmn : m ≤ 18446744073709551615 := by rw [← hm]; exact Nat.le_trans (Nat.div_le_self _ _) hn
      have hm2 : n / 256 ^ (k - g) = m / 256 := by
        rw [show k - g = k - (g + 1) + 1 by omega, Nat.pow_succ, ← Nat.div_div_eq_div_mul, hm]
      rw [hm]
      have hgi : ((g + 1 : Nat) : Int) - 1 = g := by omega
      rw [hgi]
      have hgk : (g : Int) < k := by omega
      have hset : (List.replicate (g + 1) 0 ++ (putB n k).drop (g + 1)).set g (UInt8.ofNat m) = List.replicate g 0 ++ (putB n k).drop g := by
        rw [putB_get n k g (by omega), show k - 1 - g = k - (g + 1) by omega, hm, List.replicate_succ', List.append_assoc]
        rw [List.set_append_right _ _ (by simp), List.length_replicate, Nat.sub_self]; rfl
      have hlen : g < (List.replicate (g + 1) (0 : UInt8) ++ (putB n k).drop (g + 1)).length := by simp; omega
      have hcell := R.cell g hlen
      have hfz := R.frz g hlen
      have hbl := R.lt
      have R2 := R.set hlen (UInt8.ofNat m)
      rw [hset] at R2
      have HM2 := Lib.hid hm2
      have hmi : (m : Int) % 256 = ((UInt8.ofNat m).toNat : Int) := by simp
      obtain ⟨c, hc⟩ : ∃ c, UInt8.ofNat m = c := ⟨_, rfl⟩
      rw [hc] at hmi R2
      have hq : (m : Int) / 256 = ((m / 256 : Nat) : Int) := by simp
      obtain ⟨m2, hm3⟩ : ∃ k, m / 256 = k := ⟨_, rfl⟩
      rw [hm3] at hq HM2
      clear hm hm2 hset hlen R hc hm3 hgi
      go_wp2_with fail
      go_roundg g
      case rel => exact ⟨by rw [HM2.out], rfl, by omega, HB.setCell (p := ⟨w.heap.size, g, none⟩) (Nat.le_refl _) _, R2⟩
      case measure => omega
end Go.Proofs.Ytkblkdojmfgneaa

namespace Go.Proofs.Ytkblkdojmfgneaa
open Go.RowKit

theorem repL (n : Nat) (c : UInt8) : Lib.repeatL [c] n = List.replicate n c := by
  induction n with
  | zero => rfl
  | succ n ih => simp [Lib.repeatL, ih, List.replicate_succ]
theorem rep0_any (n : Nat) (w : World) (hn : n ≤ 100000) : Calls Try.prog 24 #[.string ⟨#[0]⟩, .int .i64 n] w fun e w' => e = .returned (.string ⟨(List.replicate n 0).toArray⟩) ∧ Below w.heap.size w w' := by
  have := Try.strings_Repeat ⟨#[0]⟩ n w (by omega) (by show 1 * n ≤ _; omega)
  rw [show (⟨#[0]⟩ : ByteArray).data.toList = [0] from rfl, repL] at this
  exact this
set_option maxHeartbeats 4000000 in
set_option maxRecDepth 20000 in
theorem whole_any (s : ByteArray) (w : World) (hs : s.size ≤ 100000) :
    Calls Try.prog 108 #[.string s] w fun e w' => e = .returned (.string ⟨(wholeL s.data.toList).toArray⟩) ∧ Below w.heap.size w w' := by
  obtain ⟨n, hn⟩ : ∃ n, s.size = n := ⟨_, rfl⟩
  obtain ⟨p, hp⟩ : ∃ p, padN n = p := ⟨_, rfl⟩
  have hp64 : p < 64 := by rw [← hp]; exact Nat.mod_lt _ (by decide)
  have r1 : ((n : Int) + 1 + 8).tmod 64 = (((n + 9) % 64 : Nat) : Int) := by
    rw [show ((n : Int) + 1 + 8) = ((n + 9 : Nat) : Int) by omega]; exact (Int.ofNat_tmod (n + 9) 64).symm
  obtain ⟨r, hr⟩ : ∃ r, (n + 9) % 64 = r := ⟨_, rfl⟩
  rw [hr] at r1
  have hr64 : r < 64 := by rw [← hr]; exact Nat.mod_lt _ (by decide)
  obtain ⟨q, hq⟩ : ∃ q, 64 - r = q := ⟨_, rfl⟩
  have hqi : (64 : Int) - r = (q : Int) := by omega
  have r2 : (q : Int).tmod 64 = (p : Int) := by
    rw [← hp]; unfold padN; rw [hr, hq]; exact (Int.ofNat_tmod q 64).symm
  have hm8 : (8 : Int) * n = ((8 * n : Nat) : Int) := by simp
  obtain ⟨m8, hm⟩ : ∃ k, 8 * n = k := ⟨_, rfl⟩
  rw [hm] at hm8
  have R1 := Lib.hid (fun W => rep0_any p W (by omega))
  have P1 := Lib.hid (fun W => wput_any m8 8 W (by omega) (by omega) (by omega))
  obtain ⟨rp, hrp⟩ : ∃ t : ByteArray, ⟨(List.replicate p 0).toArray⟩ = t := ⟨_, rfl⟩
  obtain ⟨pt, hpt⟩ : ∃ t : ByteArray, ⟨(putB m8 8).toArray⟩ = t := ⟨_, rfl⟩
  rw [hrp] at R1
  rw [hpt] at P1
  obtain ⟨q1, hq1⟩ : ∃ t, s ++ ⟨#[128]⟩ = t := ⟨_, rfl⟩
  obtain ⟨q2, hq2⟩ : ∃ t, q1 ++ rp = t := ⟨_, rfl⟩
  obtain ⟨q3, hq3⟩ : ∃ t, q2 ++ pt = t := ⟨_, rfl⟩
  have hrps : rp.size = p := by rw [← hrp]; show (List.replicate p 0).length = p; simp
  have hpts : pt.size = 8 := by rw [← hpt]; exact putB_len _ _
  have hq1s : q1.size = n + 1 := by rw [← hq1, ByteArray.size_append, hn]; rfl
  have hq2s : q2.size = n + 1 + p := by rw [← hq2, ByteArray.size_append, hq1s, hrps]
  have radd1 : ∀ W, (Op.stringOp .add s ⟨#[128]⟩).run Try.prog W = .ok (.string q1) W := fun W => by rw [← hq1]; exact run_string_add_sum W _ _ (by rw [hn]; show n + 1 ≤ _; omega)
  have radd2 : ∀ W, (Op.stringOp .add q1 rp).run Try.prog W = .ok (.string q2) W := fun W => by rw [← hq2]; exact run_string_add_sum W _ _ (by omega)
  have radd3 : ∀ W, (Op.stringOp .add q2 pt).run Try.prog W = .ok (.string q3) W := fun W => by rw [← hq3]; exact run_string_add_sum W _ _ (by omega)
  have hres : (⟨(wholeL s.data.toList).toArray⟩ : ByteArray) = q3 := by
    apply ba_ext
    rw [← hq3, ba_app, ← hq2, ba_app, ← hq1, ba_app, ← hrp, ← hpt]
    show wholeL s.data.toList = _
    unfold wholeL
    rw [show s.data.toList.length = n from hn, hp, hm]
    rfl
  rw [hres]
  rw [hn] at hs
  clear hres hq1 hq2 hq3 hrp hpt hp hr hq hm hrps hpts hq1s hq2s
  go_enter Try.func108, Try.ntmps108
  go_wp2_with fail
  refine (R1.out _).mono ?_
  rintro e W1 ⟨rfl, hb1⟩
  have hbs1 := hb1.size
  go_wp2_with fail
  refine (P1.out _).mono ?_
  rintro e W2 ⟨rfl, hb2⟩
  have HB2 := Below.thn hb1 hb2 hbs1
  go_wp2_with fail
  go_ret
  exact ⟨rfl, HB2⟩
end Go.Proofs.Ytkblkdojmfgneaa

namespace Go.Proofs.Ytkblkdojmfgneaa
open Go.RowKit

/-- A text's sum. -/
def wordsL (s : List UInt8) : List Nat := sumGo ((wholeL s).length / 64) constH (wholeL s)
def sumL (s : List UInt8) : List UInt8 := textL (wordsL s)
theorem whole_len (s : List UInt8) : (wholeL s).length = s.length + 9 + padN s.length := by
  simp [wholeL, be64]; omega
theorem whole_mod (s : List UInt8) : (wholeL s).length % 64 = 0 := by
  rw [whole_len]; unfold padN; omega
theorem whole_le (s : List UInt8) : (wholeL s).length ≤ s.length + 72 := by
  rw [whole_len]; unfold padN; omega
theorem textL_snoc (l : List Nat) (x : Nat) : textL (l ++ [x]) = textL l ++ putB x 4 := by
  unfold textL
  rw [List.flatMap_append]
  congr 1
  simp [putB, List.range_succ]
theorem textL_len (l : List Nat) : (textL l).length = 4 * l.length := by
  unfold textL
  induction l with
  | nil => rfl
  | cons a r ih =>
    rw [List.flatMap_cons, List.length_append, ih]
    show 4 + _ = 4 * (r.length + 1)
    omega
def Words (H : List Nat) : Prop := H.length = 8 ∧ ∀ x, x ∈ H → x < 4294967296
theorem words_form {H : List Nat} (h : Words H) : ∃ h0 h1 h2 h3 h4 h5 h6 h7, H = [h0, h1, h2, h3, h4, h5, h6, h7] ∧ SLt ⟨h0, h1, h2, h3, h4, h5, h6, h7⟩ := by
  match H, h.1, h.2 with
  | [h0, h1, h2, h3, h4, h5, h6, h7], _, h2' => exact ⟨h0, h1, h2, h3, h4, h5, h6, h7, rfl, h2' _ (by simp), h2' _ (by simp), h2' _ (by simp), h2' _ (by simp), h2' _ (by simp), h2' _ (by simp), h2' _ (by simp), h2' _ (by simp)⟩
theorem step_words (H : List Nat) (s : List UInt8) : Words (stepL H s) := by
  refine ⟨rfl, fun x hx => ?_⟩
  unfold stepL at hx
  simp only [List.mem_cons, List.mem_nil_iff, or_false] at hx
  rcases hx with h | h | h | h | h | h | h | h <;> (rw [h]; exact add32_lt _ _)
theorem start_words : Words constH := ⟨by kernel_rfl, fun x hx => by
  have h5 : constH.all (· < 4294967296) = true := by kernel_rfl
  exact of_decide_eq_true (List.all_eq_true.1 h5 x hx)⟩
theorem sumGo_words : ∀ (n : Nat) (H : List Nat) (s : List UInt8), Words H → Words (sumGo n H s)
  | 0, _, _, h => h
  | n + 1, H, s, h => by
    unfold sumGo
    split
    · exact h
    · exact sumGo_words n _ _ (step_words _ _)
theorem words_words (s : List UInt8) : Words (wordsL s) := sumGo_words _ _ _ start_words
theorem sumL_len (s : List UInt8) : (sumL s).length = 32 := by
  unfold sumL; rw [textL_len, (words_words s).1]
theorem step_list (H : List Nat) (hH : Words H) (kb : Nat) (s : ByteArray) (w : World) (hs : s.size = 64) (B : Blk w kb (nums .u32 constK).toArray 154) :
    Calls Try.prog 109 #[.agg (nums .u32 H).toArray, .pointer (some ⟨kb, 0, none⟩), .string s] w fun e w' => e = .returned (.agg (nums .u32 (stepL H s.data.toList)).toArray) ∧ Below w.heap.size w w' := by
  obtain ⟨h0, h1, h2, h3, h4, h5, h6, h7, rfl, hl⟩ := words_form hH
  refine step_any h0 h1 h2 h3 h4 h5 h6 h7 kb s w hs hl B.lt (fun i hi => ?_)
  rw [B.cell, List.getElem?_toArray, nums_get _ _ _ (by exact hi)]
theorem setCells_blk2 (b : Nat) (t : TypeId) : ∀ (vs : List Value) (o : Nat) (w : World) (cs : List Value), Blk w b cs.toArray t → o + vs.length ≤ cs.length → Blk (w.setCells b o vs) b ((cs.take o ++ vs ++ cs.drop (o + vs.length)).toArray) t
  | [], o, w, cs, B, hs => by
    rw [List.append_nil, List.length_nil, Nat.add_zero, List.take_append_drop]; exact B
  | v :: r, o, w, cs, B, hs => by
    have B1 : Blk (w.setCell ⟨b, o, none⟩ v) b (cs.set o v).toArray t := (B.set (o := o) (v := v)).conv (by rw [List.setIfInBounds_toArray])
    have hs' : o + 1 + r.length ≤ (cs.set o v).length := by simp at hs ⊢; omega
    have := setCells_blk2 b t r (o + 1) _ _ B1 hs'
    refine this.conv ?_
    congr 1
    have ho : o < cs.length := by simp at hs ⊢; omega
    rw [List.take_add_one, List.take_set_of_le (Nat.le_refl o), List.getElem?_set_self ho, List.drop_set_of_lt (by omega), List.length_cons]
    rw [show o + 1 + r.length = o + (r.length + 1) by omega]
    simp
/-- The sum's bytes, the first 4 * i of them. -/
def outAt (H : List Nat) (i : Nat) : List Value := (textL (H.take i)).map bval ++ List.replicate (32 - 4 * i) (Value.int .u8 0)
theorem outAt_len (H : List Nat) (i : Nat) (hH : H.length = 8) (hi : i ≤ 8) : (outAt H i).length = 32 := by
  simp [outAt, textL_len]; omega
theorem outAt_next (H : List Nat) (i : Nat) (hH : H.length = 8) (hi : i < 8) : (outAt H i).take (4 * i) ++ (putB (H.getD i 0) 4).map bval ++ (outAt H i).drop (4 * i + ((putB (H.getD i 0) 4).map bval).length) = outAt H (i + 1) := by
  have hl : ((textL (H.take i)).map bval).length = 4 * i := by simp [textL_len]; omega
  rw [List.length_map, putB_len]
  unfold outAt
  rw [List.take_left' hl, List.drop_append, List.drop_of_length_le (by omega), hl, List.nil_append, List.drop_replicate]
  rw [show H.take (i + 1) = H.take i ++ [H.getD i 0] by
    rw [List.take_add_one, List.getElem?_eq_getElem (by omega), List.getD_eq_getElem?_getD, List.getElem?_eq_getElem (by omega)]; rfl]
  rw [textL_snoc, List.map_append]
  congr 2
  omega
theorem outAt_all (H : List Nat) (hH : H.length = 8) : outAt H 8 = (textL H).map bval := by
  unfold outAt
  rw [List.take_of_length_le (by omega)]; simp
/-- An array's element, by its number. -/
theorem run_index_arr {P : Program} (w : World) (t e : TypeId) (n : Nat) (cs : Array Value) (k : IntKind) (i : Nat) (v : Value) (hu : P.underlying t = some (.array n e))
    (ha : ∀ w, (Go.isAgg e).run P w = .ok false w) (hz : ∀ w, (Go.sizeOf e).run P w = .ok 1 w) (hi : i < n) (hg : cs[i]? = some v) :
    (Instr.index t (.agg cs) (.int k i)).run P w = .ok v w := by
  have h1 : (0 : Int) ≤ i ∧ (i : Int) < n := by omega
  simp [Instr.index, asIntOf, run_underlying hu, hi, part, ha, hz, hg]
/-- The loops' state. -/
structure SAt (w W : World) (hb kb : Nat) (H : List Nat) : Prop where
  HB : Below w.heap.size w W
  B2 : Blk W w.heap.size (outAt H 0).toArray 148
  BH : Blk W hb (nums .u32 H).toArray 152
  BK : Blk W kb (nums .u32 constK).toArray 154
  lo : w.heap.size < hb
  ne : hb < kb
theorem SAt.below {w W W' : World} {hb kb : Nat} {H : List Nat} (h : SAt w W hb kb H) (g : Below W.heap.size W W') : SAt w W' hb kb H :=
  ⟨Below.thn h.HB g h.HB.size, h.B2.below g, h.BH.below g, h.BK.below g, h.lo, h.ne⟩
theorem SAt.put {w W W' : World} {hb kb : Nat} {H H' : List Nat} (h : SAt w W hb kb H) (hp : Put hb W W') (B : Blk W' hb (nums .u32 H').toArray 152) : SAt w W' hb kb H' :=
  ⟨hp.below (Nat.le_of_lt h.lo) h.HB, hp.blk (by have := h.lo; omega) h.B2, B, hp.blk (by have := h.ne; omega) h.BK, h.lo, h.ne⟩

set_option maxHeartbeats 4000000 in
set_option maxRecDepth 20000 in
theorem sum_any (v : Value) (T : ByteArray) (w : World) (hT : T.size ≤ 10000)
    (hJ : ∀ W, Below w.heap.size w W → Calls Try.prog 98 #[v, .string ⟨#[]⟩] W fun e w' => e = .returned (.string T) ∧ Below W.heap.size W w') :
    Calls Try.prog 103 #[v] w fun e w' => e = .returned (.agg ((sumL T.data.toList).map bval).toArray) ∧ Below w.heap.size w w' := by
  obtain ⟨F, hF⟩ : ∃ F, wordsL T.data.toList = F := ⟨_, rfl⟩
  have hFw : Words F := by rw [← hF]; exact words_words _
  have hsum : sumL T.data.toList = textL F := by rw [← hF]; rfl
  rw [hsum]
  obtain ⟨S, hS⟩ : ∃ S : ByteArray, (⟨(wholeL T.data.toList).toArray⟩ : ByteArray) = S := ⟨_, rfl⟩
  have hSl : S.data.toList = wholeL T.data.toList := by rw [← hS]
  have hSs : S.size = (wholeL T.data.toList).length := by rw [← hSl]; rfl
  obtain ⟨N, hN⟩ : ∃ N, S.size = 64 * N := ⟨S.size / 64, by rw [hSs]; have := whole_mod T.data.toList; omega⟩
  have hgo : sumGo N constH S.data.toList = F := by
    rw [← hF, hSl]; unfold wordsL; rw [← hSs, hN, Nat.mul_div_cancel_left _ (by decide)]
  have hW := fun W => whole_any T W (by omega)
  rw [hS] at hW
  have HW := Lib.hid hW; have HJ := Lib.hid hJ; have HGO := Lib.hid hgo; have HN := Lib.hid hN; have HFW := Lib.hid hFw
  clear hW hJ hgo hN hFw hF hsum hS hSl hSs
  have hks : (nums .u32 constK).toArray.size = 64 := by kernel_rfl
  have hhs : (nums .u32 constH).toArray.size = 8 := by kernel_rfl
  have hK1 : (nums .u32 constK).toArray.all (·.oneCell') = true := by kernel_rfl
  have hH1 : (nums .u32 constH).toArray.all (·.oneCell') = true := by kernel_rfl
  go_enter Try.func103, Try.ntmps103
  go_wp2_with fail
  refine (start_any _).mono ?_
  rintro e W1 ⟨rfl, hb⟩
  have HB : Below w.heap.size w W1 := Below.thn (by (repeat (first | (with_reducible assumption) | (with_reducible exact Below.refl _ _) | with_reducible apply bl_drewN | with_reducible apply Below.drew | (with_reducible apply bl_alloc; focus (first | (simp; done) | (simp; omega) | omega)) | (with_reducible apply bl_set; focus (first | (simp; done) | (simp; omega) | omega))))) hb
  have HBs := HB.size
  have B2 := Blk.below (b := w.heap.size) (t := 148) (by (repeat (first | (with_reducible assumption) | (with_reducible apply Blk.new'; (first | (with_reducible rfl) | (simp; done))) | with_reducible apply Blk.alloc | with_reducible apply Blk.set | ((with_reducible apply Blk.set_ne); focus (first | (simp; done) | (simp; omega))) | with_reducible apply Blk.drewN | with_reducible apply Blk.drew))) hb
  have B2c := B2.cell; have B2f := B2.frozen; have B2l := B2.lt
  clear hb
  go_wp2_with fail
  refine (keys_any _).mono ?_
  rintro e W2 ⟨rfl, hb⟩
  have HB : Below w.heap.size w W2 := Below.thn (by (repeat (first | (with_reducible assumption) | (with_reducible exact Below.refl _ _) | with_reducible apply bl_drewN | with_reducible apply Below.drew | (with_reducible apply bl_alloc; focus (first | (simp; done) | (simp; omega) | omega)) | (with_reducible apply bl_set; focus (first | (simp; done) | (simp; omega) | omega))))) hb
  have HBs := HB.size
  have B2 := Blk.below (b := w.heap.size) (t := 148) (by (repeat (first | (with_reducible assumption) | (with_reducible apply Blk.new'; (first | (with_reducible rfl) | (simp; done))) | with_reducible apply Blk.alloc | with_reducible apply Blk.set | ((with_reducible apply Blk.set_ne); focus (first | (simp; done) | (simp; omega))) | with_reducible apply Blk.drewN | with_reducible apply Blk.drew))) hb
  have B2c := B2.cell; have B2f := B2.frozen; have B2l := B2.lt
  clear hb
  have B2' : Blk W2 w.heap.size (outAt constH 0).toArray 148 := B2.conv rfl
  clear B2 B2c B2f B2l
  obtain ⟨KK, hKK⟩ : ∃ K, (nums .u32 constK).toArray = K := ⟨_, rfl⟩
  obtain ⟨HH, hHH⟩ : ∃ K, (nums .u32 constH).toArray = K := ⟨_, rfl⟩
  rw [hKK, hHH]
  rw [hKK] at hks hK1
  rw [hHH] at hhs hH1
  have hWs := HB.size
  have hB2l := B2'.lt
  go_wp2_with (first | (refine wpList_put rfl 152 _ _ rfl W2.heap.size _ _ 152 rfl rfl (by (repeat (first | (with_reducible assumption) | (with_reducible apply Blk.new'; (first | (with_reducible rfl) | (simp; done))) | with_reducible apply Blk.alloc | with_reducible apply Blk.set | ((with_reducible apply Blk.set_ne); focus (first | (simp; done) | (simp; omega))) | with_reducible apply Blk.drewN | with_reducible apply Blk.drew))) (by rw [hhs]; kernel_rfl) (hhs.trans rfl) hH1 (fun W9 hp9 B9 => ?_)) | (refine wpList_put rfl 154 _ _ rfl (W2.heap.size + 1) _ _ 154 rfl rfl (hp9.blk (by simp) (by (repeat (first | (with_reducible assumption) | (with_reducible apply Blk.new'; (first | (with_reducible rfl) | (simp; done))) | with_reducible apply Blk.alloc | with_reducible apply Blk.set | ((with_reducible apply Blk.set_ne); focus (first | (simp; done) | (simp; omega))) | with_reducible apply Blk.drewN | with_reducible apply Blk.drew)))) (by rw [hks]; kernel_rfl) (hks.trans rfl) hK1 (fun W10 hp10 B10 => ?_)))
  have V : SAt w W10 W2.heap.size (W2.heap.size + 1) constH := by
    subst hKK hHH
    refine ⟨hp10.below (by omega) (hp9.below (by omega) ?_), hp10.blk (by omega) (hp9.blk (by omega) ?_), hp10.blk (by omega) B9, B10, hB2l, by omega⟩
    · repeat (first | (with_reducible assumption) | (with_reducible exact Below.refl _ _) | with_reducible apply bl_drewN | with_reducible apply Below.drew | (with_reducible apply bl_alloc; focus (first | (simp; done) | (simp; omega) | omega)) | (with_reducible apply bl_set; focus (first | (simp; done) | (simp; omega) | omega)))
    · exact Blk.alloc (Blk.alloc B2')
  clear B2' B9 B10 hp9 hp10 HB HBs hK1 hH1 hks hhs hWs hB2l hKK hHH
  obtain ⟨bh, hbh⟩ : ∃ b, W2.heap.size = b := ⟨_, rfl⟩
  obtain ⟨bk, hbk⟩ : ∃ b, bh + 1 = b := ⟨_, rfl⟩
  rw [hbh] at V ⊢
  rw [hbk] at V ⊢
  clear hbh hbk
  refine (HJ.out W10 V.HB).mono ?_
  rintro e W3 ⟨rfl, hb3⟩
  have V3 := V.below hb3
  clear V hb3 HJ
  go_wp2_with fail
  refine (HW.out _).mono ?_
  rintro e W4 ⟨rfl, hb4⟩
  have V4 := V3.below hb4
  clear V3 hb4 HW
  go_wp2_with fail
  go_loopg [5] N (fun gk t5 wr => ∃ (S : ByteArray) (H : List Nat), t5 = .string S ∧ S.size = 64 * gk ∧ Words H ∧ sumGo gk H S.data.toList = F ∧ SAt w wr bh bk H)
  case atStart => exact ⟨S, constH, rfl, HN.out, start_words, HGO.out, V4⟩
  case round =>
    clear V4 HN HGO
    obtain ⟨S, H, rfl, hN, hHw, hgo, V⟩ := hrel
    cases gk with
    | zero =>
      obtain rfl : S = ⟨#[]⟩ := by
        have h0 : S.data.size = 0 := by show S.size = 0; omega
        have : S.data = #[] := Array.eq_empty_of_size_eq_zero h0
        show (⟨S.data⟩ : ByteArray) = _
        rw [this]
      have hF : H = F := hgo
      subst hF
      clear hgo hN
      have hHs : (nums .u32 H).toArray.size = 8 := by rw [List.size_toArray, nums_length, hHw.1]
      have hwrs := V.HB.size
      go_wp2_with (refine wpList_load_row rfl 152 _ rfl bh rfl 152 _ (0, 0) _ (Blk.alloc V.BH).out Try.underlying152 rfl (by rw [hHs]; kernel_rfl) ?_)
      have HB := V.HB
      have Q2 := V.B2
      refine wp_abs2 (n := w.heap.size) (w := w) w.heap.size 148 wr.heap.size 148 (by (repeat (first | (with_reducible assumption) | (with_reducible exact Below.refl _ _) | with_reducible apply bl_drewN | with_reducible apply Below.drew | (with_reducible apply bl_alloc; focus (first | (simp; done) | (simp; omega) | omega)) | (with_reducible apply bl_set; focus (first | (simp; done) | (simp; omega) | omega))))) (by (repeat (first | (with_reducible assumption) | (with_reducible apply Blk.new'; (first | (with_reducible rfl) | (simp; done))) | with_reducible apply Blk.alloc | with_reducible apply Blk.set | ((with_reducible apply Blk.set_ne); focus (first | (simp; done) | (simp; omega))) | with_reducible apply Blk.drewN | with_reducible apply Blk.drew))) (by (repeat (first | (with_reducible assumption) | (with_reducible apply Blk.new'; (first | (with_reducible rfl) | (simp; done))) | with_reducible apply Blk.alloc | with_reducible apply Blk.set | ((with_reducible apply Blk.set_ne); focus (first | (simp; done) | (simp; omega))) | with_reducible apply Blk.drewN | with_reducible apply Blk.drew))) (fun W5 HB5 Q5 B5 => ?_)
      have hlt5 := B5.lt
      have B6 : Blk W5 wr.heap.size (outAt H 0).toArray 148 := B5.conv rfl
      have Q6 : Blk W5 w.heap.size (outAt H 0).toArray 148 := Q5.conv rfl
      have hob : w.heap.size < wr.heap.size := V.B2.lt
      clear Q2 Q5 B5 V HB
      obtain ⟨ob, hobe⟩ : ∃ b, wr.heap.size = b := ⟨_, rfl⟩
      rw [hobe] at B6 hob hlt5 ⊢
      clear hobe hwrs
      obtain ⟨HV, hHV⟩ : ∃ K, (nums .u32 H).toArray = K := ⟨_, rfl⟩
      rw [hHV]
      have hHG : ∀ i, i < 8 → HV[i]? = some (.int .u32 (H.getD i 0 : Nat)) := fun i hi => by
        rw [← hHV, List.getElem?_toArray, nums_get _ _ _ (by rw [hHw.1]; exact hi)]
      have hHVs : HV.size = 8 := by rw [← hHV]; exact hHs
      have HG := Lib.hid hHG
      have HHW := Lib.hid hHw
      clear hHG hHw hHV hHs
      go_wp2_with fail
      go_loopg [23] 8 (fun gk t23 wr => ∃ i : Nat, t23 = .int .i64 i ∧ i + gk = 8 ∧ Below w.heap.size w wr ∧ Blk wr w.heap.size (outAt H 0).toArray 148 ∧ Blk wr ob (outAt H i).toArray 148)
      case atStart => exact ⟨0, rfl, rfl, HB5, Q6, B6⟩
      case round =>
        clear HB5 Q6 B6 hlt5
        obtain ⟨i, rfl, hi, HB, Q, B⟩ := hrel
        have HBs := HB.size
        have hQl := Q.lt
        have hBl := B.lt
        cases gk with
        | zero =>
          obtain rfl : i = 8 := by omega
          have hos : (outAt H 8).toArray.size = 32 := by rw [List.size_toArray]; exact outAt_len H 8 HHW.out.1 (by omega)
          have hos0 : (outAt H 0).toArray.size = 32 := by rw [List.size_toArray]; exact outAt_len H 0 HHW.out.1 (by omega)
          have hall : (outAt H 8).toArray.all (·.oneCell') = true := all_oneCell_toArray (fun v hv => by
            rw [outAt_all H HHW.out.1] at hv
            obtain ⟨n, _, rfl⟩ := List.mem_map.1 hv; rfl)
          have hfin := outAt_all H HHW.out.1
          obtain ⟨OV, hOV⟩ : ∃ K, (outAt H 8).toArray = K := ⟨_, rfl⟩
          rw [hOV] at B hos hall
          go_wp2_with (first | (refine wpList_load_row rfl 148 _ rfl ob rfl 148 _ (0, 0) _ B.out Try.underlying148 rfl (by rw [hos]; kernel_rfl) ?_) | (refine wpList_put rfl 148 _ _ rfl w.heap.size _ _ 148 rfl rfl Q (by rw [hos]; kernel_rfl) (hos.trans hos0.symm) hall (fun W9 hp9 B9 => ?_)))
          refine bodyPost_ret (v := .agg OV) ?_ rfl ⟨by rw [← hOV, hfin], hp9.below (Nat.le_refl _) HB⟩
          exact results_cell_row (Try.results103) _ _ w.heap.size 148 _ (0, 0) _ rfl B9.out Try.underlying148 rfl (by rw [hos]; kernel_rfl)
        | succ gk =>
          have hil : i < 8 := by omega
          have hi8 : (i : Int) < 8 := by omega
          obtain ⟨x, hx⟩ : ∃ x, H.getD i 0 = x := ⟨_, rfl⟩
          have hget := HG.out i hil
          rw [hx] at hget
          have hxl : x < 4294967296 := by
            rw [← hx, List.getD_eq_getElem?_getD, List.getElem?_eq_getElem (by rw [HHW.out.1]; exact hil)]
            exact HHW.out.2 _ (List.getElem_mem _)
          obtain ⟨p, hp⟩ : ∃ p, 4 * i = p := ⟨_, rfl⟩
          have hpi : (4 : Int) * i = (p : Int) := by omega
          have hp32 : (p : Int) ≤ 32 := by omega
          have hnext := outAt_next H i HHW.out.1 hil
          rw [hx, hp] at hnext
          have hblen := outAt_len H i HHW.out.1 (by omega)
          have hidx := fun W => run_index_arr (P := Try.prog) W 152 129 8 HV .i64 i _ Try.underlying152 Try.isAgg129 Try.sizeOf129 hil hget
          have HX := Lib.hid hx; have HP := Lib.hid hp; have HNX := Lib.hid hnext; have HI := Lib.hid hi
          have hP := fun W => wput_any x 4 W (by omega) (by omega) (by omega)
          obtain ⟨t, ht⟩ : ∃ t : ByteArray, ⟨(putB x 4).toArray⟩ = t := ⟨_, rfl⟩
          have htl : t.data.toList = putB x 4 := by rw [← ht]
          have hts : t.size = 4 := by rw [← ht]; exact putB_len x 4
          rw [ht] at hP
          have HPT := Lib.hid hP; have HTL := Lib.hid htl; have HBL := Lib.hid hblen; have HTS := Lib.hid hts
          clear hx hp hnext hi hP ht htl hblen hts
          go_wp2_with fail
          refine wp_region_gr_tail 6 (by kernel_rfl) (by kernel_rfl) ?_
          simp only [List.take_succ_cons, List.take_zero, List.drop_succ_cons, List.drop_zero]
          repeat (first
            | go_big_quiet_skip
            | ((refine BigFrame.wpQuiet_want rfl (fun K hK => quiet_mk ?_)); apply Exists.intro; refine ⟨fun wq hq => ?_, hK _ ?_⟩
               · go_simp; (try simp only [↓IntWalk.iteOmega]); (try go_bits)
                 first | done | rfl | exact ⟨rfl, rfl⟩ | exact ⟨trivial, rfl⟩ | (go_at_call 51; refine (HPT.out _).mono ?_; rintro e wr ⟨rfl, hbr⟩; exact ⟨rfl, hq.next hbr⟩)
               clear hK K; (try simp only [Act.put, List.setIfInBounds_toArray, List.set_cons_zero, List.set_cons_succ])))
          refine wpQuiet_nil ?_
          intro W8 hw8
          have B8 := B.gr hw8
          have Q8 := Q.gr hw8
          have HB8 := Below.thn HB hw8.out HBs
          have hcs := run_copy_string (P := Try.prog) W8 36 9 3 5 ob p (32 - p) (32 - p) t Try.underlying36 Try.sizeOf5 (by have := HTS.out; omega)
            (fun j hj => by
              rw [B8.cell, List.getElem?_toArray, List.getElem?_eq_getElem (by rw [HBL.out]; have := HTS.out; omega)]; rfl)
            (fun j _ => B8.frozen _)
          have hmap : (t.data.toList.map fun c => Value.int .u8 (c.toNat : Int)) = (putB x 4).map bval := by rw [HTL.out]; rfl
          rw [hmap] at hcs
          have hpl : ((putB x 4).map bval).length = 4 := by rw [List.length_map, putB_len]
          have B9 := (setCells_blk2 ob 148 ((putB x 4).map bval) p W8 _ B8 (by rw [hpl, HBL.out]; omega)).conv (congrArg List.toArray HNX.out)
          obtain ⟨h1, h2, h3, h4, h5⟩ := setCells_os ob ((putB x 4).map bval) p W8
          have hp9 : Put ob W8 (W8.setCells ob p ((putB x 4).map bval)) := ⟨h1, h2, h3, h4, h5⟩
          have Q9 := hp9.blk (q := w.heap.size) (by omega) Q8
          have HB9 := hp9.below (by omega) HB8
          obtain ⟨W9, hW9⟩ : ∃ W9, W8.setCells ob p ((putB x 4).map bval) = W9 := ⟨_, rfl⟩
          rw [hW9] at hcs B9 Q9 HB9
          clear hp9 h1 h2 h3 h4 h5 hW9 hmap hpl B8 Q8 HB8 hw8 B Q HB HBs hQl hBl hget hidx
          go_wp2_with fail
          go_roundg gk
          case rel => exact ⟨i + 1, by simp, by have := HI.out; omega, HB9, Q9, B9⟩
          case measure => omega
    | succ gk =>
      have hne : S.toList.isEmpty = false := by
        rw [ba_toList, List.isEmpty_eq_false_iff]
        intro h
        have : S.data.size = 0 := by rw [← Array.length_toList, h]; rfl
        exact absurd this (by show S.size ≠ 0; omega)
      have hle : (64 : Int) ≤ (S.size : Int) := by omega
      have hl64 : S.data.toList.length = 64 * (gk + 1) := hN
      have hgo2 : sumGo gk (stepL H (S.data.toList.take 64)) (S.data.toList.drop 64) = F := by
        rw [← hgo]
        show _ = if S.data.toList = [] then H else _
        rw [if_neg (by intro h; rw [h] at hl64; simp at hl64)]
      have HGO := Lib.hid hgo2
      have HN := Lib.hid hN
      clear hgo hgo2 hl64 hN
      obtain ⟨S64, hS64⟩ : ∃ t, S.extract 0 64 = t := ⟨_, rfl⟩
      have hSl : S64.data.toList = S.data.toList.take 64 := by rw [← hS64, ba_extract]; simp
      have hS6 : S64.size = 64 := by rw [← hS64, ByteArray.size_extract]; have := HN.out; omega
      obtain ⟨SR, hSR⟩ : ∃ t, S.extract 64 S.size = t := ⟨_, rfl⟩
      have hSRl : SR.data.toList = S.data.toList.drop 64 := by
        rw [← hSR, ba_extract, List.take_of_length_le (by rw [List.length_drop]; exact Nat.le_refl _)]
      have hSRs : SR.size = 64 * gk := by rw [← hSR, ByteArray.size_extract]; have := HN.out; omega
      obtain ⟨H2, hH2⟩ : ∃ K, stepL H (S.data.toList.take 64) = K := ⟨_, rfl⟩
      have hw2 : Words H2 := by rw [← hH2]; exact step_words _ _
      have hgo := HGO.out
      rw [hH2, ← hSRl] at hgo
      have hst := fun W (B : Blk W bk (nums .u32 constK).toArray 154) => step_list H hHw bk S64 W hS6 B
      rw [hSl, hH2] at hst
      obtain ⟨h0, h1, h2, h3, h4, h5, h6, h7, rfl, hlt⟩ := words_form hHw
      have BHx : Blk wr bh (c35 h0 h1 h2 h3 h4 h5 h6 h7) 152 := V.BH.conv rfl
      have HST := Lib.hid hst; have HGO2 := Lib.hid hgo
      have HSR := Lib.hid hSRs
      clear hst hgo HGO hHw hlt hSl hS6 hSRl hSRs hH2
      have V' := Lib.hid V
      clear V
      go_wp2_with fail
      refine wp_region_typed 4 (fun k => match k with  | _ => []) (fun k => match k with  | _ => false) (fun k => match k with | 3 => some ⟨(Unit), (()), (fun _ => .agg (nums .u32 H2).toArray), (fun _ _ => True), (fun _ _ _ h _ => h)⟩ | _ => none) (by kernel_rfl) (by kernel_rfl) (by intro d0 v0 c0 a0 w0 h0; first | (cases d0 <;> exact h0) | exact hP _ _ _ _ _ h0) ?_
      rw [show List.range 4 = [0, 1, 2, 3] from rfl]
      first
        | (refine ty_skip rfl rfl ?_; (try simp only [Act.put, List.setIfInBounds_toArray, List.set_cons_zero, List.set_cons_succ]))
        | (refine ty_pure rfl rfl rfl rfl ?_; apply Exists.intro; refine ⟨fun wq hq hk => ?_, ?_⟩
           · have f0 := hq.blk BHx; simp only [pureAt]; go_simp; (try simp only [↓IntWalk.iteOmega]); (try go_bits); (try simp only [pureUpon]); (first | done | exact ⟨rfl, rfl⟩ | exact ⟨trivial, rfl⟩ | rfl)
           (try simp only [Act.put, List.setIfInBounds_toArray, List.set_cons_zero, List.set_cons_succ]))
      first
        | (refine ty_skip rfl rfl ?_; (try simp only [Act.put, List.setIfInBounds_toArray, List.set_cons_zero, List.set_cons_succ]))
        | (refine ty_pure rfl rfl rfl rfl ?_; apply Exists.intro; refine ⟨fun wq hq hk => ?_, ?_⟩
           · have f0 := hq.blk BHx; simp only [pureAt]; go_simp; (try simp only [↓IntWalk.iteOmega]); (try go_bits); (try simp only [pureUpon]); (first | done | exact ⟨rfl, rfl⟩ | exact ⟨trivial, rfl⟩ | rfl)
           (try simp only [Act.put, List.setIfInBounds_toArray, List.set_cons_zero, List.set_cons_succ]))
      first
        | (refine ty_skip rfl rfl ?_; (try simp only [Act.put, List.setIfInBounds_toArray, List.set_cons_zero, List.set_cons_succ]))
        | (refine ty_pure rfl rfl rfl rfl ?_; apply Exists.intro; refine ⟨fun wq hq hk => ?_, ?_⟩
           · have f0 := hq.blk BHx; simp only [pureAt]; go_simp; (try simp only [↓IntWalk.iteOmega]); (try go_bits); (try simp only [pureUpon]); (first | done | exact ⟨rfl, rfl⟩ | exact ⟨trivial, rfl⟩ | rfl)
           (try simp only [Act.put, List.setIfInBounds_toArray, List.set_cons_zero, List.set_cons_succ]))
      refine ty_rel rfl rfl _ rfl rfl (fun wq hq hk => ?_) ?_
      · have f0 := hq.blk BHx; simp only [relAt]; go_simp; (try simp only [relUpon]); (go_at_call 109; refine (HST.out _ (V'.out.below hq.out).BK).mono ?_; rintro e w9 ⟨rfl, hb9⟩; exact ⟨_, rfl, .mk hb9 () rfl trivial⟩)
      rintro ⟨⟩
      (try simp only [Act.put, List.setIfInBounds_toArray, List.set_cons_zero, List.set_cons_succ])
      refine ty_nil ?_
      simp only [List.drop_succ_cons, List.drop_zero]
      intro W5 hw5 hΓ
      have V5 := V'.out.below hw5.out
      clear hΓ hw5 BHx
      have hs8 : (nums .u32 H2).toArray.size = 8 := by rw [List.size_toArray, nums_length, hw2.1]
      have hall : (nums .u32 H2).toArray.all (·.oneCell') = true := all_oneCell_toArray (fun v hv => by
        obtain ⟨n, _, rfl⟩ := List.mem_map.1 hv; rfl)
      refine wpList_put rfl 152 _ _ rfl bh _ _ 152 rfl rfl V5.BH (by rw [hs8]; kernel_rfl) (hs8.trans rfl) hall (fun W9 hp9 B9 => ?_)
      have V9 := V5.put hp9 B9
      clear V5 hp9 B9 V' hall hs8
      go_wp2_with fail
      go_roundg gk
      case rel => exact ⟨SR, H2, rfl, HSR.out, hw2, HGO2.out, V9⟩
      case measure => omega
end Go.Proofs.Ytkblkdojmfgneaa

namespace Go.Proofs.Ytkblkdojmfgneaa
open Go.RowKit

/-- A list of texts, one behind the other. -/
def catB (xs : List ByteArray) : ByteArray := ⟨((xs.map (·.data.toList)).flatten).toArray⟩
theorem join_cat (xs : List ByteArray) : Lib.join (xs.map (·.data.toList)) [] = (xs.map (·.data.toList)).flatten := by
  cases xs with
  | nil => rfl
  | cons x r =>
    rw [List.map_cons, Lib.join_cons]
    simp [Lib.joinTail, Function.comp_def]
/-- strings.Join of texts that lie in a row. -/
theorem join_row (b : Nat) (xs : List ByteArray) (w W : World) (t : TypeId) (B : Blk w b (xs.map Value.string).toArray t) (hl : (catB xs).size ≤ 10000) (hn : xs.length ≤ 1000) (hb : Below w.heap.size w W) :
    Calls Try.prog 98 #[.slice (some ⟨b, 0, none⟩) xs.length xs.length, .string ⟨#[]⟩] W fun e w' => e = .returned (.string (catB xs)) ∧ Below W.heap.size W w' := by
  have B' := B.below hb
  have h5 := Try.strings_Join b 0 xs.length xs ⟨#[]⟩ W (fun j x hx => by
    rw [Nat.zero_add, B'.cell, List.getElem?_toArray, List.getElem?_map, hx]; rfl) B'.lt (by omega) (Nat.le_refl _) (by
    rw [show (⟨#[]⟩ : ByteArray).data.toList = [] from rfl, join_cat]
    have : (catB xs).size = ((xs.map (·.data.toList)).flatten).length := rfl
    omega)
  rw [show (⟨#[]⟩ : ByteArray).data.toList = [] from rfl, join_cat] at h5
  exact h5
theorem join_no (W : World) : Calls Try.prog 98 #[.slice none 0 0, .string ⟨#[]⟩] W fun e w' => e = .returned (.string (catB [])) ∧ Below W.heap.size W w' :=
  (Try.strings_Join_none none 0 ⟨#[]⟩ W).mono fun _ _ h => ⟨h.1, h.2 ▸ Below.refl _ _⟩
/-- A text's sum as a text. -/
def sumB (T : ByteArray) : ByteArray := ⟨(sumL T.data.toList).toArray⟩
theorem sumB_size (T : ByteArray) : (sumB T).size = 32 := sumL_len _
theorem sumB_list (T : ByteArray) : (sumB T).data.toList = sumL T.data.toList := rfl
set_option maxHeartbeats 4000000 in
set_option maxRecDepth 20000 in
theorem text_any (v : Value) (T : ByteArray) (w : World) (hT : T.size ≤ 10000)
    (hJ : ∀ W, Below w.heap.size w W → Calls Try.prog 98 #[v, .string ⟨#[]⟩] W fun e w' => e = .returned (.string T) ∧ Below W.heap.size W w') :
    Calls Try.prog 96 #[v] w fun e w' => e = .returned (.string (sumB T)) ∧ Below w.heap.size w w' := by
  have hlen := sumL_len T.data.toList
  have hS := sum_any v T w hT hJ
  obtain ⟨L, hL⟩ : ∃ L, sumL T.data.toList = L := ⟨_, rfl⟩
  have hB : sumB T = ⟨L.toArray⟩ := by rw [← hL]; rfl
  rw [hL] at hlen hS
  rw [hB]
  obtain ⟨C, hC⟩ : ∃ C, (L.map bval).toArray = C := ⟨_, rfl⟩
  rw [hC] at hS
  have hCs : C.size = 32 := by rw [← hC]; simp [hlen]
  have hall : C.all (·.oneCell') = true := by
    rw [← hC]
    exact all_oneCell_toArray (fun v hv => by obtain ⟨n, _, rfl⟩ := List.mem_map.1 hv; rfl)
  have HS := Lib.hid hS; have HC := Lib.hid hC
  clear hS hC hL hB hJ
  go_enter Try.func96, Try.ntmps96
  go_wp2_with fail
  refine HS.out.mono ?_
  rintro e W1 ⟨rfl, hb1⟩
  have hbs := hb1.size
  go_upto_region 2 with (refine wpList_put rfl 148 _ _ rfl W1.heap.size _ _ 148 rfl rfl (by (repeat (first | (with_reducible assumption) | (with_reducible apply Blk.new'; (first | (with_reducible rfl) | (simp; done))) | with_reducible apply Blk.alloc | with_reducible apply Blk.set | ((with_reducible apply Blk.set_ne); focus (first | (simp; done) | (simp; omega))) | with_reducible apply Blk.drewN | with_reducible apply Blk.drew))) (by rw [hCs]; kernel_rfl) (hCs.trans rfl) hall (fun W9 hp9 B9 => ?_))
  have HB9 : Below w.heap.size w W9 := hp9.below (by omega) (by (repeat (first | (with_reducible assumption) | (with_reducible exact Below.refl _ _) | with_reducible apply bl_drewN | with_reducible apply Below.drew | (with_reducible apply bl_alloc; focus (first | (simp; done) | (simp; omega) | omega)) | (with_reducible apply bl_set; focus (first | (simp; done) | (simp; omega) | omega)))))
  have R : BRow W9 W1.heap.size L := ⟨B9.lt, fun i hi => by
    rw [B9.cell, ← HC.out, List.getElem?_toArray, List.getElem?_map, List.getD_eq_getElem?_getD, List.getElem?_eq_getElem hi]; rfl, fun i _ => B9.frozen i⟩
  have hcv : (convert 36 9 (.slice (some ⟨W1.heap.size, 0, none⟩) 32 32)).run Try.prog W9 = .ok (.string ⟨L.toArray⟩) W9 := by
    have h5 := Lib.run_convert_whole (P := Try.prog) W9 36 5 9 Try.underlying36 Try.underlying5 Try.underlying9 W1.heap.size 0 ⟨L.toArray⟩ (row_bytes R) 32
    rw [show (⟨L.toArray⟩ : ByteArray).size = 32 from hlen] at h5
    exact h5
  clear hp9 B9 R
  go_wp2_with fail
  go_ret
  exact ⟨rfl, HB9⟩
end Go.Proofs.Ytkblkdojmfgneaa

namespace Go.Proofs.Ytkblkdojmfgneaa
open Go.RowKit

def strs (l : List ByteArray) : List Value := l.map Value.string
theorem strs_snoc (l : List ByteArray) (s : ByteArray) : strs (l ++ [s]) = strs l ++ [.string s] := by simp [strs]
theorem info9 : (Try.prog.info? 9).map (fun i => (i.zero, i.size, i.bytes)) = some (some (.string ⟨#[]⟩), 1, 16) := by kernel_rfl
def cutL : ByteArray → List Nat → List ByteArray
  | s, [] => [s]
  | s, n :: r => s.extract 0 n :: cutL (s.extract n s.size) r
theorem cutL_len : ∀ (ns : List Nat) (s : ByteArray), (cutL s ns).length = ns.length + 1
  | [], _ => rfl
  | n :: r, s => by rw [cutL, List.length_cons, cutL_len r, List.length_cons]
def CutPost (s : ByteArray) (ns : List Nat) (w : World) (e : Ending) (w' : World) : Prop := ∃ v, e = .returned (.tuple #[v, .int .i64 0]) ∧ w'.ownsRow w.heap.size 9 1 v (ns.length + 1) (strs (cutL s ns)) ∧ Below w.heap.size w w'
set_option maxHeartbeats 4000000 in
set_option maxRecDepth 20000 in
theorem cut_any (s : ByteArray) (ns : List Nat) (b : Nat) (t : TypeId) (w : World) (B : Blk w b (nums .i64 ns).toArray t) (hs : s.size ≤ 100000) (hf : ns.sum ≤ s.size) (hn : ns.length ≤ 1000) :
    Calls Try.prog 76 #[.string s, .slice (some ⟨b, 0, none⟩) ns.length ns.length] w fun e w' => CutPost s ns w e w' := by
  obtain ⟨i0, hi0, hz0, hz1, hz2⟩ := info_parts info9
  unfold CutPost
  obtain ⟨ALL, hALL⟩ : ∃ A, cutL s ns = A := ⟨_, rfl⟩
  have hAl : ALL.length = ns.length + 1 := by rw [← hALL]; exact cutL_len _ _
  obtain ⟨n, hnl⟩ : ∃ n, ns.length = n := ⟨_, rfl⟩
  have hcut0 : cutL s (ns.drop 0) = ALL := by rw [List.drop_zero]; exact hALL
  rw [hALL]
  have hget : ∀ i, i < n → (nums .i64 ns).toArray[i]? = some (.int .i64 (ns.getD i 0 : Nat)) := fun i hi => by
    rw [List.getElem?_toArray, nums_get _ _ _ (by omega)]
  have HG := Lib.hid hget; have HF := Lib.hid hf; have HAL := Lib.hid hALL
  rw [hnl] at hAl hn ⊢
  have HNL := Lib.hid hnl; have HAl := Lib.hid hAl
  have HC := Lib.hid hcut0
  clear hget hf hALL hnl hAl hcut0
  go_enter Try.func76, Try.ntmps76
  go_wp2_with fail
  go_loopg [0, 6, 11] n (fun g t0 t6 t11 wr => ∃ (k : Nat) (c : ByteArray) (pre : List ByteArray), t11 = .int .i64 k ∧ t0 = .string c ∧ k + g = n ∧ pre.length = k ∧ (ns.drop k).sum ≤ c.size ∧ c.size ≤ 100000 ∧ pre ++ cutL c (ns.drop k) = ALL ∧ wr.ownsRow w.heap.size 9 1 t6 k (strs pre) ∧ Below w.heap.size w wr)
  case atStart => exact ⟨0, s, [], rfl, rfl, by omega, rfl, HF.out, hs, HC.out, World.ownsRow_nil _ _ _ _, Below.refl _ _⟩
  case round =>
    obtain ⟨k, c, pre, rfl, rfl, hk, hpl, hsum, hcs, hall, ho, HB⟩ := hrel
    have B1 := B.below HB
    have HBs := HB.size
    obtain ⟨a3, c3, h3⟩ := own_slice ho
    subst h3
    have HPL := Lib.hid hpl; have HSUM := Lib.hid hsum
    clear hpl hsum
    cases gk with
    | zero =>
      have hk' : ¬ (k : Int) < n := by omega
      obtain rfl : k = n := by omega
      have hd : ns.drop k = [] := List.drop_eq_nil_of_le (by have := HNL.out; omega)
      rw [hd] at hall
      have hall2 : strs ALL = strs pre ++ [.string c] := by rw [← hall]; exact strs_snoc _ _
      have HALL := Lib.hid hall2
      clear hall hall2 hd hk
      have o2 := ho.alloc (.cells #[.string c] 9)
      go_wp2_with (at_builtin; refine wpList_append_lies _ rfl _ _ 117 rfl w.heap.size 9 i0 _ 1 16 Try.underlying117 hi0 hz0 hz1 hz2 rfl (by decide) _ _ _ rfl o2 ⟨wr.heap.size, 0, none⟩ 1 1 [.string c] rfl rfl (World.news_of_block (heap_alloc_new wr _)) (by simp [Value.oneCell']) (by decide) ?c3 ?c4 ?c5 (wr.heap.size + 1) (by simp) ?_)
      case c3 => unfold maxLen; omega
      case c4 => omega
      case c5 => first | omega | (simp; omega)
      intro gg cc w' ho' hg hl hlt
      have hb : Below w.heap.size w w' := (HB.alloc HBs _).grown hg (by simp; omega) (fun q hq => (ho.lt q hq).1)
      clear o2 hg hl hlt
      rw [← HALL.out] at ho'
      go_wp2_with fail
      refine bodyPost_ret (v := .tuple #[_, .int .i64 0]) ?_ rfl ⟨_, rfl, ho', hb⟩
      simp [results, Try.results76, go_sem]
    | succ g =>
      have hk' : (k : Int) < n := by omega
      have hkl : k < n := by omega
      obtain ⟨m, hm⟩ : ∃ m, ns.getD k 0 = m := ⟨_, rfl⟩
      have hdrop : ns.drop k = m :: ns.drop (k + 1) := by
        have h6 : k < ns.length := by rw [HNL.out]; exact hkl
        rw [List.drop_eq_getElem_cons h6, ← hm, List.getD_eq_getElem?_getD, List.getElem?_eq_getElem h6]; rfl
      have hsum2 := HSUM.out
      rw [hdrop, List.sum_cons] at hsum2
      have hmc : (m : Int) ≤ c.size := by omega
      have hm0 : ¬ (m : Int) < 0 := by omega
      have hmg : ¬ (c.size : Int) < m := by omega
      rw [hdrop] at hall
      have hcell : wr.cell? ⟨b, k, none⟩ = some (.int .i64 m) := by rw [B1.cell, HG.out k hkl, hm]
      have hblt := B1.lt
      obtain ⟨c1, hc1⟩ : ∃ x, c.extract 0 m = x := ⟨_, rfl⟩
      obtain ⟨c2, hc2⟩ : ∃ x, c.extract m c.size = x := ⟨_, rfl⟩
      have hall2 : (pre ++ [c1]) ++ cutL c2 (ns.drop (k + 1)) = ALL := by
        rw [← hall, cutL, hc1, hc2, List.append_assoc]; rfl
      have hc2s : c2.size = c.size - m := by rw [← hc2, ByteArray.size_extract]; omega
      have hrow : strs (pre ++ [c1]) = strs pre ++ [.string c1] := strs_snoc _ _
      have hs2 : (ns.drop (k + 1)).sum ≤ c2.size := by omega
      have hcs2 : c2.size ≤ 100000 := by omega
      have HALL := Lib.hid hall2; have HR := Lib.hid hrow; have HS2 := Lib.hid hs2; have HCS2 := Lib.hid hcs2; have HKK := Lib.hid hk; have HPL2 := Lib.hid (show (pre ++ [c1]).length = k + 1 by rw [List.length_append, HPL.out]; rfl)
      clear hall hall2 hrow hs2 hcs2 hc2s hsum2 hdrop hm hk
      have o2 := ho.alloc (.cells #[.string c1] 9)
      go_wp2_with (at_builtin; refine wpList_append_lies _ rfl _ _ 117 rfl w.heap.size 9 i0 _ 1 16 Try.underlying117 hi0 hz0 hz1 hz2 rfl (by decide) _ _ _ rfl o2 ⟨wr.heap.size, 0, none⟩ 1 1 [.string c1] rfl rfl (World.news_of_block (heap_alloc_new wr _)) (by simp [Value.oneCell']) (by decide) ?c3 ?c4 ?c5 (wr.heap.size + 1) (by simp) ?_)
      case c3 => unfold maxLen; omega
      case c4 => omega
      case c5 => first | omega | (simp; omega)
      intro gg cc w' ho' hg hl hlt
      have hb : Below w.heap.size w w' := (HB.alloc HBs _).grown hg (by simp; omega) (fun q hq => (ho.lt q hq).1)
      clear o2 hg hl hlt
      rw [← HR.out] at ho'
      go_wp2_with fail
      go_roundg g
      case rel => exact ⟨k + 1, c2, pre ++ [c1], by simp, rfl, by have := HKK.out; omega, HPL2.out, HS2.out, HCS2.out, HALL.out, ho', hb⟩
      case measure => omega
end Go.Proofs.Ytkblkdojmfgneaa

namespace Go.Proofs.Ytkblkdojmfgneaa
open Go.RowKit

theorem ba_lit (l : List UInt8) (s : ByteArray) (h : s.data.toList = l) : s = ⟨l.toArray⟩ := by
  have : s.data = l.toArray := by rw [← h]
  show (⟨s.data⟩ : ByteArray) = _
  rw [this]
theorem below_drewN {n q : Nat} {w w' : World} (h : Below n w w') : Below n w (w'.drewN q) := bl_drewN h
set_option maxHeartbeats 4000000 in
set_option maxRecDepth 20000 in
theorem awake01_any (w : World) : Calls Try.prog 79 #[] w fun e w' => e = .returned (.bool true) ∧ Below w.heap.size w w' := by
  have hput : ∀ W, Calls Try.prog 51 #[.int .u64 258, .int .i64 2] W fun e w' => e = .returned (.string ⟨#[1, 2]⟩) ∧ Below W.heap.size W w' := fun W => by
    have h5 := wput_any 258 2 W (by omega) (by omega) (by omega)
    rw [show (⟨(putB 258 2).toArray⟩ : ByteArray) = ⟨#[1, 2]⟩ by kernel_rfl] at h5
    exact h5
  have HP := Lib.hid hput
  clear hput
  go_enter Try.func79, Try.ntmps79
  go_wp2_with fail
  refine (cut_any ⟨#[97, 98, 99, 100]⟩ [1, 2] w.heap.size 3 _ ((Blk.new' rfl).conv rfl) (by decide) (by decide) (by decide)).mono ?_
  rintro e W1 ⟨v, rfl, ho, hb⟩
  have HB : Below w.heap.size w W1 := Below.thn (by (repeat (first | (with_reducible assumption) | (with_reducible exact Below.refl _ _) | with_reducible apply bl_drewN | with_reducible apply Below.drew | (with_reducible apply bl_alloc; focus (first | (simp; done) | (simp; omega) | omega)) | (with_reducible apply bl_set; focus (first | (simp; done) | (simp; omega) | omega))))) hb
  have HBs := HB.size
  clear hb
  obtain ⟨g, c, rfl, hg0, hgl, hgc⟩ := own_reads ho (by decide)
  have hx : strs (cutL ⟨#[97, 98, 99, 100]⟩ [1, 2]) = strs [⟨#[97]⟩, ⟨#[98, 99]⟩, ⟨#[100]⟩] := by
    congr 1
  rw [hx] at hgc
  have HG := Lib.hid hgc
  clear hgc ho hx
  go_wp2_with fail
  refine (Try.slices_Equal_string g 0 3 c W1.heap.size 0 3 3 [⟨#[97]⟩, ⟨#[98, 99]⟩, ⟨#[100]⟩] [⟨#[97]⟩, ⟨#[98, 99]⟩, ⟨#[100]⟩] _ (by decide) (by decide) (by decide) (by decide) (fun j hj => ?_) (fun j hj => ?_)).mono ?_
  · rw [Nat.zero_add, World.cell?_of_block (Below.heap_alloc _ _ _ hgl), HG.out j hj]
    match j, hj with
    | 0, _ => rfl
    | 1, _ => rfl
    | 2, _ => rfl
  · rw [Nat.zero_add, (Blk.new W1 _ _).cell]
    match j, hj with
    | 0, _ => rfl
    | 1, _ => rfl
    | 2, _ => rfl
  rintro e W2 ⟨rfl, q, rfl⟩
  rw [decide_eq_true (show List.take 3 ([⟨#[97]⟩, ⟨#[98, 99]⟩, ⟨#[100]⟩] : List ByteArray) = List.take 3 [⟨#[97]⟩, ⟨#[98, 99]⟩, ⟨#[100]⟩] from rfl)]
  have HB2 : Below w.heap.size w (W1.alloc (Obj.cells #[Value.string { data := #[97] }, Value.string { data := #[98, 99] }, Value.string { data := #[100] }] 9) |>.drewN q) := by (repeat (first | (with_reducible assumption) | (with_reducible exact Below.refl _ _) | with_reducible apply bl_drewN | with_reducible apply Below.drew | (with_reducible apply bl_alloc; focus (first | (simp; done) | (simp; omega) | omega)) | (with_reducible apply bl_set; focus (first | (simp; done) | (simp; omega) | omega))))
  clear HG hgl hg0
  go_wp2_with fail
  refine (HP.out _).mono ?_
  rintro e W3 ⟨rfl, hb3⟩
  have HB3 := Below.thn HB2 hb3 HB2.size
  go_wp2_with fail
  go_ret
  exact ⟨rfl, HB3⟩
theorem awake01x_any (w : World) : Calls Try.prog 47 #[] w fun e w' => e = .returned (.bool true) ∧ Below w.heap.size w w' := by
  go_enter Try.func47, Try.ntmps47
  go_wp2_with fail
  refine (awake01_any w).mono ?_
  rintro e W1 ⟨rfl, hb⟩
  go_wp2_with fail
  go_ret
  exact ⟨rfl, hb⟩
theorem sumL_abc : Lib.hasPrefix (sumL [97, 98, 99]) [186, 120, 22, 191] = true := by
  have h1 : wordsL [97, 98, 99] = [0xba7816bf, 0x8f01cfea, 0x414140de, 0x5dae2223, 0xb00361a3, 0x96177a9c, 0xb410ff61, 0xf20015ad] := by
    have h2 : (wholeL [97, 98, 99]).length = 64 := by rw [whole_abc]; rfl
    unfold wordsL
    rw [h2, show 64 / 64 = 1 from rfl]
    unfold sumGo
    rw [if_neg (by rw [whole_abc]; exact List.cons_ne_nil _ _), List.take_of_length_le (by rw [h2]; exact Nat.le_refl _), sum_abc]
    rfl
  unfold sumL
  rw [h1]
  show Lib.hasPrefix (textL [0xba7816bf, 0x8f01cfea, 0x414140de, 0x5dae2223, 0xb00361a3, 0x96177a9c, 0xb410ff61, 0xf20015ad]) [186, 120, 22, 191] = true
  kernel_rfl
set_option maxHeartbeats 4000000 in
set_option maxRecDepth 20000 in
theorem awake03_any (w : World) : Calls Try.prog 102 #[] w fun e w' => e = .returned (.bool true) ∧ Below w.heap.size w w' := by
  have hpre := sumL_abc
  have hs0 := sumB_size (catB [])
  obtain ⟨e0, he0⟩ : ∃ t, sumB (catB []) = t := ⟨_, rfl⟩
  have htn := fun W => text_any (.slice none 0 0) (catB []) W (by decide) (fun W' _ => join_no W')
  rw [he0] at hs0 htn
  have HTN := Lib.hid htn
  have hta := fun b W t B => text_any (.slice (some ⟨b, 0, none⟩) 2 2) (catB [⟨#[97]⟩, ⟨#[98, 99]⟩]) W (by decide) (fun W' hb => join_row b [⟨#[97]⟩, ⟨#[98, 99]⟩] W W' t B (by decide) (by decide) hb)
  have hsl : (sumB (catB [⟨#[97]⟩, ⟨#[98, 99]⟩])).data.toList = sumL [97, 98, 99] := rfl
  obtain ⟨ea, hea⟩ : ∃ t, sumB (catB [⟨#[97]⟩, ⟨#[98, 99]⟩]) = t := ⟨_, rfl⟩
  rw [hea] at hta hsl
  rw [← hsl] at hpre
  have HTA := Lib.hid hta
  have HPRE := Lib.hid hpre
  clear hpre hta htn he0 hea hsl
  go_enter Try.func102, Try.ntmps102
  go_wp2_with fail
  refine (awake01x_any w).mono ?_
  rintro e W1 ⟨rfl, hb⟩
  have hbs := hb.size
  go_wp2_with fail
  refine (HTA.out W1.heap.size _ 9 ((Blk.new' rfl).conv rfl)).mono ?_
  rintro e W2 ⟨rfl, hb2⟩
  have HB2 : Below w.heap.size w W2 := Below.thn (by (repeat (first | (with_reducible assumption) | (with_reducible exact Below.refl _ _) | with_reducible apply bl_drewN | with_reducible apply Below.drew | (with_reducible apply bl_alloc; focus (first | (simp; done) | (simp; omega) | omega)) | (with_reducible apply bl_set; focus (first | (simp; done) | (simp; omega) | omega))))) hb2
  clear hb2
  go_wp2_with fail
  refine (Try.strings_HasPrefix ea ⟨#[186, 120, 22, 191]⟩ _).mono ?_
  rintro e W3 ⟨rfl, rfl⟩
  rw [show (⟨#[186, 120, 22, 191]⟩ : ByteArray).data.toList = [186, 120, 22, 191] from rfl, HPRE.out]
  have HB2s := HB2.size
  go_wp2_with fail
  refine (HTN.out _).mono ?_
  rintro e W4 ⟨rfl, hb4⟩
  have HB4 := Below.thn HB2 hb4 HB2s
  go_wp2_with fail
  go_ret
  exact ⟨rfl, HB4⟩
end Go.Proofs.Ytkblkdojmfgneaa
