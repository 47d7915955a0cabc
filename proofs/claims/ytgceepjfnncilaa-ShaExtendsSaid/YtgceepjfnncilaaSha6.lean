/- Package word: Put; package sha: Whole. -/
import Derived.Test.YtgceepjfnncilaaSha5
import Derived.Test.YtgceepjfnncilaaBRow
namespace Go.Proofs.Ytgceepjfnncilaa
open Go.RowKit

/-- A number's bytes, k of them. -/
def putB (n k : Nat) : List UInt8 := (List.range k).map fun i => UInt8.ofNat (n / 256 ^ (k - 1 - i))
theorem info5 : (Try.prog.info? 5).map (fun i => (i.zero, i.size, i.bytes)) = some (some (.int .u8 0), 1, 1) := by kernel_rfl
theorem putB_len (n k : Nat) : (putB n k).length = k := by simp [putB]
theorem putB_get (n k j : Nat) (h : j < k) : (putB n k).drop j = UInt8.ofNat (n / 256 ^ (k - 1 - j)) :: (putB n k).drop (j + 1) := by
  have hl : j < (putB n k).length := by rw [putB_len]; exact h
  rw [List.drop_eq_getElem_cons hl]
  congr 1
  simp [putB]
theorem own_brow {w : World} {base g n : Nat} {l : List UInt8} (h : w.ownsRow base 5 1 (.slice (some ⟨g, 0, none⟩) n n) n (l.map bval)) (hn : 0 < n) (hl : l.length = n) : BRow w g l := by
  rcases h.2 with ⟨_, h5⟩ | ⟨q, c, cur, h5, h6, h7, h8, h9, h10, h11⟩
  · omega
  · simp only [Value.slice.injEq, Option.some.injEq, Addr.mk.injEq, and_true, true_and] at h5
    obtain ⟨rfl, _⟩ := h5
    refine ⟨(Array.getElem?_eq_some_iff.1 h7).1, fun i hi => ?_, fun i hi => ?_⟩
    · have h12 : (cur.toList.take (n * 1))[i]? = cur.toList[i]? := List.getElem?_take_of_lt (by omega)
      rw [h11] at h12
      have B : Blk w g cur 5 := ⟨h7⟩
      rw [B.cell, ← Array.getElem?_toList, ← h12, List.getElem?_map, List.getD_eq_getElem?_getD, List.getElem?_eq_getElem hi]
      rfl
    · have B : Blk w g cur 5 := ⟨h7⟩
      exact B.frozen i
set_option maxHeartbeats 4000000 in
set_option maxRecDepth 20000 in
theorem wput_any (n k : Nat) (w : World) (hn : n ≤ 18446744073709551615) (h1 : 1 ≤ k) (h8 : k ≤ 8) :
    Calls Try.prog 40 #[.int .u64 n, .int .i64 k] w fun e w' => e = .returned (.string ⟨(putB n k).toArray⟩) ∧ Below w.heap.size w w' := by
  have hm1 : max (k : Int) 0 = k := by omega
  have hm2 : min (k : Int) 8 = k := by omega
  obtain ⟨i0, hi0, hz0, hz1, hz2⟩ := info_parts info5
  go_enter Try.func40, Try.ntmps40
  go_wp2_with (refine wpList_make_full _ rfl _ _ 30 rfl w.heap.size 5 i0 _ 1 Try.underlying30 hi0 hz0 hz1 .i64 .i64 _ _ k rfl rfl rfl rfl ?c1 ?c2 (Nat.le_refl _) ?_)
  case c1 => rw [hz2]; omega
  case c2 => unfold maxLen; omega
  intro W1 ho hg
  have e : (madeCells #[Value.int .u8 0] k).toList = (List.replicate k (0 : UInt8)).map bval := by
    apply List.ext_getElem
    · simp [madeCells]
    · intro i h1 h2
      simp [madeCells, bval, Nat.mod_one]
  rw [e] at ho
  have hrow : BRow W1 w.heap.size (List.replicate k 0) := own_brow ho (by omega) (by simp)
  have HB1 : Below w.heap.size w W1 := (Below.refl _ _).grown hg (Nat.le_refl _) (fun q hq => by cases hq)
  clear ho hg
  go_wp2_with fail
  go_loopg [0, 6] k (fun g t0 t6 wr => t0 = .int .u64 ((n / 256 ^ (k - g) : Nat) : Int) ∧ t6 = .int .i64 ((g : Int) - 1) ∧ g ≤ k ∧ Below w.heap.size w wr ∧ BRow wr w.heap.size (List.replicate g 0 ++ (putB n k).drop g))
  case atStart => exact ⟨by rw [Nat.sub_self, Nat.pow_zero, Nat.div_one], rfl, Nat.le_refl _, HB1, by rw [List.drop_of_length_le (by rw [putB_len]; exact Nat.le_refl _), List.append_nil]; exact hrow⟩
  case round =>
    clear HB1 hrow
    obtain ⟨rfl, rfl, hg, HB, R⟩ := hrel
    have HBs := HB.size
    cases gk with
    | zero =>
      have hneg : ¬ (0 : Int) ≤ ((0 : Nat) : Int) - 1 := by omega
      have hcv : (convert 30 9 (.slice (some ⟨w.heap.size, 0, none⟩) k k)).run Try.prog wr = .ok (.string ⟨(putB n k).toArray⟩) wr := by
        have h5 := Lib.run_convert_whole (P := Try.prog) wr 30 5 9 Try.underlying30 Try.underlying5 Try.underlying9 w.heap.size 0 ⟨(putB n k).toArray⟩ (row_bytes R) k
        rw [show (⟨(putB n k).toArray⟩ : ByteArray).size = k from putB_len n k] at h5
        exact h5
      go_wp2_with fail
      go_ret
      exact ⟨rfl, HB⟩
    | succ g =>
      obtain ⟨m, hm⟩ : ∃ m, n / 256 ^ (k - (g + 1)) = m := ⟨_, rfl⟩
      have hmn : m ≤ 18446744073709551615 := by rw [← hm]; exact Nat.le_trans (Nat.div_le_self _ _) hn
      have hm2 : n / 256 ^ (k - g) = m / 256 := by
        rw [show k - g = k - (g + 1) + 1 by omega, Nat.pow_succ, ← Nat.div_div_eq_div_mul, hm]
      rw [hm]
      have hgi : ((g + 1 : Nat) : Int) - 1 = g := by omega
      rw [hgi]
      have hgk : (g : Int) < k := by omega
      have hset : (List.replicate (g + 1) 0 ++ (putB n k).drop (g + 1)).set g (UInt8.ofNat m) = List.replicate g 0 ++ (putB n k).drop g := by
        rw [putB_get n k g (by omega), show k - 1 - g = k - (g + 1) by omega, hm, List.replicate_succ', List.append_assoc]
        rw [List.set_append_right _ _ (by simp), List.length_replicate, Nat.sub_self]; rfl
      have hlen : g < (List.replicate (g + 1) (0 : UInt8) ++ (putB n k).drop (g + 1)).length := by simp; omega
      have hcell := R.cell g hlen
      have hfz := R.frz g hlen
      have hbl := R.lt
      have R2 := R.set hlen (UInt8.ofNat m)
      rw [hset] at R2
      have HM2 := Lib.hid hm2
      have hmi : (m : Int) % 256 = ((UInt8.ofNat m).toNat : Int) := by simp
      obtain ⟨c, hc⟩ : ∃ c, UInt8.ofNat m = c := ⟨_, rfl⟩
      rw [hc] at hmi R2
      have hq : (m : Int) / 256 = ((m / 256 : Nat) : Int) := by simp
      obtain ⟨m2, hm3⟩ : ∃ k, m / 256 = k := ⟨_, rfl⟩
      rw [hm3] at hq HM2
      clear hm hm2 hset hlen R hc hm3 hgi
      go_wp2_with fail
      go_roundg g
      case rel => exact ⟨by rw [HM2.out], rfl, by omega, HB.setCell (p := ⟨w.heap.size, g, none⟩) (Nat.le_refl _) _, R2⟩
      case measure => omega
end Go.Proofs.Ytgceepjfnncilaa
