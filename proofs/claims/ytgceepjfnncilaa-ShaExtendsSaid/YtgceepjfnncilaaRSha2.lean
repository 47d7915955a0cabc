/- The document's sums: Pad. -/
import Derived.Test.YtgceepjfnncilaaRSha1
import Derived.Test.YtgceepjfnncilaaConv
namespace Go.Proofs.Ytgceepjfnncilaa
open Go.RowKit

/-- The bytes so far, j noughts of so many. -/
def padAt (s : List UInt8) (j : Nat) : List UInt8 := s ++ [128] ++ List.replicate j 0
theorem padAt_len (s : List UInt8) (j : Nat) : (padAt s j).length = s.length + 1 + j := by simp [padAt]; omega
theorem padAt_next (s : List UInt8) (j : Nat) : (padAt s j).map bval ++ [.int .u8 0] = (padAt s (j + 1)).map bval := by
  simp [padAt, List.replicate_succ', bval]
/-- .. and of the number's bytes all but so many. -/
def padE (s : List UInt8) (g : Nat) : List UInt8 := padAt s (padN s.length) ++ (be64 (8 * s.length)).take (8 - g)
theorem be64_len (n : Nat) : (be64 n).length = 8 := by simp [be64]
theorem padE_len (s : List UInt8) (g : Nat) (h : g ≤ 8) : (padE s g).length = s.length + 9 + padN s.length - g := by
  unfold padE
  rw [List.length_append, padAt_len, List.length_take, be64_len]; omega
theorem padE_next (s : List UInt8) (g : Nat) (h : g < 8) : (padE s (g + 1)).map bval ++ [.int .u8 ((8 * s.length / 2 ^ (8 * g) % 256 : Nat) : Int)] = (padE s g).map bval := by
  unfold padE
  rw [show 8 - g = (8 - (g + 1)) + 1 by omega, List.take_add_one, List.getElem?_eq_getElem (by rw [be64_len]; omega)]
  simp only [Option.toList, List.map_append, List.map_cons, List.map_nil, ← List.append_assoc]
  congr 1
  simp only [be64, bval, List.getElem_map, List.getElem_range, UInt8.toNat_ofNat']
  rw [show 7 - (8 - (g + 1)) = g by omega, show (256 : Nat) = 2 ^ 8 by rfl, ← Nat.pow_mul]
theorem padE_all (s : List UInt8) : padE s 0 = wholeL s := by
  unfold padE padAt wholeL
  rw [List.take_of_length_le (by rw [be64_len]; omega)]
set_option maxHeartbeats 4000000 in
set_option maxRecDepth 20000 in
theorem rpad_any (s : ByteArray) (w : World) (hs : s.size ≤ 10000) :
    Calls Try.prog 17 #[.string s] w fun e w' => e = .returned (.string ⟨(wholeL s.data.toList).toArray⟩) ∧ Below w.heap.size w w' := by
  obtain ⟨i0, hi0, hz0, hz1, hz2⟩ := info_parts info5
  obtain ⟨v1, W1, hcv, hrow, HB⟩ := conv_crow s w 9 30 5 Try.underlying9 Try.underlying30 Try.underlying5 (by omega)
  obtain ⟨n, hn⟩ : ∃ n, s.size = n := ⟨_, rfl⟩
  obtain ⟨l, hl⟩ : ∃ l, s.data.toList = l := ⟨_, rfl⟩
  have hln : l.length = n := by rw [← hl]; exact hn
  rw [hl] at hrow ⊢
  rw [hn] at hrow
  obtain ⟨p, hp⟩ : ∃ p, padN n = p := ⟨_, rfl⟩
  have hp64 : p < 64 := by rw [← hp]; exact Nat.mod_lt _ (by decide)
  have hm8 : (n : Int) * 8 = ((8 * n : Nat) : Int) := by omega
  obtain ⟨m8, hm⟩ : ∃ k, 8 * n = k := ⟨_, rfl⟩
  rw [hm] at hm8
  have hmod : ∀ j, j ≤ p → (((n + 1 + j : Nat) : Int)).tmod 64 = (((n + 1 + j) % 64 : Nat) : Int) := fun j _ => (Int.ofNat_tmod (n + 1 + j) 64).symm
  have h56 : ∀ j, j ≤ p → ((n + 1 + j) % 64 = 56 ↔ j = p) := by
    intro j hj
    rw [← hp] at hj ⊢
    unfold padN at hj ⊢
    omega
  have hPN : ∀ g, g < 8 → (padE l (g + 1)).map bval ++ [.int .u8 ((m8 / 2 ^ (8 * g) % 256 : Nat) : Int)] = (padE l g).map bval := fun g hg => by
    have := padE_next l g hg
    rw [hln, hm] at this; exact this
  have hPL : ∀ g, g ≤ 8 → (padE l g).length = n + 9 + p - g := fun g hg => by rw [padE_len l g hg, hln, hp]
  have hP8 : padAt l p = padE l 8 := by unfold padE; rw [hln, hp]; simp
  have HMOD := Lib.hid hmod; have H56 := Lib.hid h56; have HPN := Lib.hid hPN; have HPL := Lib.hid hPL; have HP8 := Lib.hid hP8; have HLN := Lib.hid hln
  rw [hn] at hs
  have HN := Lib.hid hn
  clear hmod h56 hPN hPL hP8 hln hm hp hl
  obtain ⟨av, cv, rfl⟩ := hrow.slice
  have hns := HN.out
  go_enter Try.func17, Try.ntmps17
  have HBsz := HB.size
  go_wp2_with (at_builtin; refine wpList_append_crow rfl _ _ 30 rfl 5 i0 _ 1 w.heap.size Try.underlying30 hi0 hz0 hz1 hz2 rfl _ _ _ rfl (CRow.alloc hrow _) ⟨W1.heap.size, 0, none⟩ 1 (.int .u8 128) rfl (by rw [(Blk.new W1 _ _).cell]; rfl) rfl ?c1 ?c2 ?c3 ?_)
  case c1 => unfold maxLen; omega
  case c2 => omega
  case c3 => first | omega | (simp; omega)
  intro v2 W2 ho2 hg2
  have hb2 : Below w.heap.size w W2 := (HB.alloc HB.size _).grown hg2 (by have := HB.size; simp; omega) (fun q hq => (CRow.lt hrow q hq).1)
  clear hg2 HBsz
  obtain ⟨a2, c2, rfl⟩ := ho2.slice
  have ho3 : CRow W2 w.heap.size 5 (.slice a2 (n + 1) c2) (n + 1) ((padAt l 0).map bval) := by
    have e : (padAt l 0).map bval = l.map bval ++ [.int .u8 128] := by simp [padAt, bval]
    rw [e]; exact ho2
  clear ho2 hrow HB
  go_wp2_with fail
  go_loopg [4] p (fun gk t4 wr => ∃ j : Nat, j + gk = p ∧ CRow wr w.heap.size 5 t4 (n + 1 + j) ((padAt l j).map bval) ∧ Below w.heap.size w wr)
  case atStart => exact ⟨0, by omega, ho3, hb2⟩
  case round =>
    clear ho3 hb2
    obtain ⟨j, hj, ho, HB⟩ := hrel
    obtain ⟨a4, c4, rfl⟩ := ho.slice
    have hmj := HMOD.out j (by omega)
    have h5 := H56.out j (by omega)
    obtain ⟨q, hq⟩ : ∃ q, n + 1 + j = q := ⟨_, rfl⟩
    rw [hq] at ho hmj h5 ⊢
    obtain ⟨r, hr⟩ : ∃ r, q % 64 = r := ⟨_, rfl⟩
    rw [hr] at hmj h5
    have hq2 : q ≤ 10100 := by omega
    cases gk with
    | zero =>
      have hr5 : (r : Int) = 56 := by have := h5.2 (by omega); omega
      obtain rfl : j = p := by omega
      have HQ := Lib.hid hq
      clear hj h5 hr hq
      go_wp2_with fail
      have hcv2 : True := trivial
      go_loopg [4, 5] 8 (fun gk t4 t5 wr => t5 = .int .i64 ((gk : Int) - 1) ∧ gk ≤ 8 ∧ CRow wr w.heap.size 5 t4 (n + 9 + j - gk) ((padE l gk).map bval) ∧ Below w.heap.size w wr)
      case atStart =>
        refine ⟨rfl, Nat.le_refl _, ?_, HB⟩
        rw [← HP8.out, show n + 9 + j - 8 = q by have := HQ.out; omega]; exact ho
      case round =>
        clear ho HB hmj hr5 HQ
        obtain ⟨rfl, hg8, ho, HB⟩ := hrel
        obtain ⟨a5, c5, rfl⟩ := ho.slice
        obtain ⟨q, hq⟩ : ∃ q, n + 9 + j - gk = q := ⟨_, rfl⟩
        rw [hq] at ho ⊢
        cases gk with
        | zero =>
          have hneg : ¬ (0 : Int) ≤ ((0 : Nat) : Int) - 1 := by omega
          obtain ⟨g, cap, hv, hg, R⟩ := ho.bytes
          simp only [Value.slice.injEq, true_and] at hv
          obtain ⟨rfl, rfl⟩ := hv
          have hres : padE l 0 = wholeL l := padE_all l
          rw [hres] at R
          have hcv3 : (convert 30 9 (.slice (some ⟨g, 0, none⟩) q c5)).run Try.prog wr = .ok (.string ⟨(wholeL l).toArray⟩) wr := by
            have h5 := Lib.run_convert_whole (P := Try.prog) wr 30 5 9 Try.underlying30 Try.underlying5 Try.underlying9 g 0 ⟨(wholeL l).toArray⟩ (row_bytes R) c5
            have hz : (⟨(wholeL l).toArray⟩ : ByteArray).size = q := by
              show (wholeL l).length = q
              rw [← hres, HPL.out 0 (by omega)]; omega
            rw [hz] at h5
            exact h5
          clear ho R hg hres hq hcv
          go_wp2_with fail
          go_ret
          exact ⟨rfl, HB⟩
        | succ g =>
          have hgi : ((g + 1 : Nat) : Int) - 1 = g := by omega
          rw [hgi]
          have hg0 : (0 : Int) ≤ (g : Int) := by omega
          obtain ⟨e8, he8⟩ : ∃ e, 8 * g = e := ⟨_, rfl⟩
          have hei : (8 : Int) * g = (e8 : Int) := by omega
          have he64 : (e8 : Int) < 64 := by omega
          have he0 : (0 : Int) ≤ (e8 : Int) := by omega
          have hPN := HPN.out g (by omega)
          rw [he8] at hPN
          obtain ⟨c, hc⟩ : ∃ c, m8 / 2 ^ e8 % 256 = c := ⟨_, rfl⟩
          have hci : (m8 : Int) / 2 ^ e8 % 256 = (c : Int) := by rw [← hc]; simp
          rw [hc] at hPN
          have HPN2 := Lib.hid hPN
          have HG8 := Lib.hid hg8
          have HQ := Lib.hid hq
          have hq2 : q ≤ 10100 := by omega
          clear hPN hc he8 hgi hg8 hq hcv
          have HBsz := HB.size
          go_wp2_with (at_builtin; refine wpList_append_crow rfl _ _ 30 rfl 5 i0 _ 1 w.heap.size Try.underlying30 hi0 hz0 hz1 hz2 rfl _ _ _ rfl (CRow.alloc ho _) ⟨wr.heap.size, 0, none⟩ 1 (.int .u8 c) rfl (by rw [(Blk.new wr _ _).cell]; rfl) rfl ?c1 ?c2 ?c3 ?_)
          case c1 => unfold maxLen; omega
          case c2 => omega
          case c3 => first | omega | (simp; omega)
          intro v2 W2 ho2 hg2
          have hb2 : Below w.heap.size w W2 := (HB.alloc HB.size _).grown hg2 (by have := HB.size; simp; omega) (fun q hq => (CRow.lt ho q hq).1)
          clear hg2 HBsz
          rw [HPN2.out] at ho2
          go_wp2_with fail
          go_roundg g
          case rel => exact ⟨rfl, by have := HG8.out; omega, by rw [show n + 9 + j - g = q + 1 by have := HQ.out; have := HG8.out; omega]; exact ho2, hb2⟩
          case measure => omega
    | succ gk =>
      have hr5 : ¬ (r : Int) = 56 := by
        intro h
        have := h5.1 (by omega)
        omega
      have HQ := Lib.hid hq
      have HJ := Lib.hid hj
      clear hj h5 hr hq hcv
      have HBsz := HB.size
      go_wp2_with (at_builtin; refine wpList_append_crow rfl _ _ 30 rfl 5 i0 _ 1 w.heap.size Try.underlying30 hi0 hz0 hz1 hz2 rfl _ _ _ rfl (CRow.alloc ho _) ⟨wr.heap.size, 0, none⟩ 1 (.int .u8 0) rfl (by rw [(Blk.new wr _ _).cell]; rfl) rfl ?c1 ?c2 ?c3 ?_)
      case c1 => unfold maxLen; omega
      case c2 => omega
      case c3 => first | omega | (simp; omega)
      intro v2 W2 ho2 hg2
      have hb2 : Below w.heap.size w W2 := (HB.alloc HB.size _).grown hg2 (by have := HB.size; simp; omega) (fun q hq => (CRow.lt ho q hq).1)
      clear hg2 HBsz
      rw [padAt_next] at ho2
      go_wp2_with fail
      go_roundg gk
      case rel => exact ⟨j + 1, by have := HJ.out; omega, by rw [show n + 1 + (j + 1) = q + 1 by have := HQ.out; omega]; exact ho2, hb2⟩
      case measure => omega
end Go.Proofs.Ytgceepjfnncilaa
