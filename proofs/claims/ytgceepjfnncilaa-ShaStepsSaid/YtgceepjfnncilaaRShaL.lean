/- The document's step by the plain law's. -/
import Derived.Test.YtgceepjfnncilaaSha8
namespace Go.Proofs.Ytgceepjfnncilaa

/-- The words, the first n of them. -/
def sched (s : List UInt8) : Nat → List Nat
  | 0 => []
  | n + 1 => sched s n ++ [nextW s (sched s n) n]
theorem sched_len (s : List UInt8) : ∀ n, (sched s n).length = n
  | 0 => rfl
  | n + 1 => by rw [sched, List.length_append, sched_len s n]; rfl
theorem sched_get (s : List UInt8) (i : Nat) : ∀ n, i < n → (sched s n).getD i 0 = nextW s (sched s i) i
  | 0, h => by omega
  | n + 1, h => by
    rw [sched, List.getD_eq_getElem?_getD]
    by_cases hi : i < n
    · rw [List.getElem?_append_left (by rw [sched_len]; exact hi), ← List.getD_eq_getElem?_getD, sched_get s i n hi]
    · obtain rfl : i = n := by omega
      rw [List.getElem?_append_right (by rw [sched_len]; exact Nat.le_refl _), sched_len, Nat.sub_self]; rfl
theorem sched_lt (s : List UInt8) : ∀ n j, (sched s n).getD j 0 < 4294967296
  | 0, j => by simp [sched]
  | n + 1, j => getD_snoc_lt _ _ _ (sched_lt s n) (nextW_lt _ _ _)
def rounds2 (WW : List Nat) : Nat → Nat → St → St
  | 0, _, v => v
  | n + 1, i, v => rounds2 WW n (i + 1) (roundL v (constK.getD i 0) (WW.getD i 0))
theorem rounds2_eq (s : List UInt8) (M : Nat) : ∀ n i v, i + n ≤ M → roundsGo s n i (sched s i) v = rounds2 (sched s M) n i v
  | 0, _, _, _ => rfl
  | n + 1, i, v, h => by
    have h5 : sched s i ++ [nextW s (sched s i) i] = sched s (i + 1) := rfl
    rw [roundsGo, h5, rounds2_eq s M n (i + 1) _ (by omega), rounds2, sched_get s i M (by omega)]
theorem ch_eq (e f g : Nat) (he : e < 4294967296) (hg : g < 4294967296) : (e &&& f) ^^^ ((4294967295 - e) &&& g) = chL e f g := by
  apply Nat.eq_of_testBit_eq
  intro i
  have h1 : (4294967295 - e).testBit i = (decide (i < 32) && !e.testBit i) := by
    have := Nat.testBit_two_pow_sub_succ (n := 32) (x := e) he i
    rw [show 2 ^ 32 - (e + 1) = 4294967295 - e by omega] at this
    exact this
  unfold chL
  simp only [Nat.testBit_xor, Nat.testBit_and, h1]
  by_cases hi : i < 32
  · rw [decide_eq_true hi]
    cases e.testBit i <;> cases f.testBit i <;> cases g.testBit i <;> rfl
  · have hg0 : g.testBit i = false := Nat.testBit_lt_two_pow (Nat.lt_of_lt_of_le hg (show 2 ^ 32 ≤ 2 ^ i from Nat.pow_le_pow_right (by decide) (by omega)))
    have he0 : e.testBit i = false := Nat.testBit_lt_two_pow (Nat.lt_of_lt_of_le he (show 2 ^ 32 ≤ 2 ^ i from Nat.pow_le_pow_right (by decide) (by omega)))
    rw [hg0, he0]; simp
theorem maj_eq (a b c : Nat) : ((a &&& b) ^^^ (a &&& c)) ^^^ (b &&& c) = majL a b c := by
  apply Nat.eq_of_testBit_eq
  intro i
  unfold majL
  simp only [Nat.testBit_xor, Nat.testBit_and, Nat.testBit_or]
  cases a.testBit i <;> cases b.testBit i <;> cases c.testBit i <;> rfl
/-- A word's bytes, the first j of them. -/
def bpart (s : List UInt8) (i : Nat) : Nat → Nat
  | 0 => 0
  | j + 1 => bpart s i j * 256 + (s.getD (4 * i + j) 0).toNat
theorem bpart_lt (s : List UInt8) (i : Nat) : ∀ j, bpart s i j < 256 ^ j
  | 0 => by show 0 < 1; decide
  | j + 1 => by
    have := bpart_lt s i j
    have := (s.getD (4 * i + j) 0).toNat_lt
    rw [bpart, Nat.pow_succ]; omega
theorem bpart_all (s : List UInt8) (i : Nat) : bpart s i 4 = be32 s i := by
  simp only [bpart, be32, Nat.add_zero]; omega
theorem cellsW_same (W : List Nat) (n : Nat) (h : W.length < n) : (cellsW W n).setIfInBounds W.length (.int .u32 ((0 : Nat) : Int)) = cellsW W n := by
  have h1 := cellsW_next W n h
  apply Array.ext'
  rw [Array.toList_setIfInBounds]
  apply List.ext_getElem?
  intro j
  by_cases hj : W.length = j
  · subst hj
    rw [List.getElem?_set_self (by rw [Array.length_toList]; exact (Array.getElem?_eq_some_iff.1 h1).1), Array.getElem?_toList, h1]; rfl
  · rw [List.getElem?_set_ne hj]
theorem own_blk {w : World} {base g n : Nat} {e : TypeId} {xs : List Value} (h : w.ownsRow base e 1 (.slice (some ⟨g, 0, none⟩) n n) n xs) (hn : 0 < n) : Blk w g xs.toArray e := by
  rcases h.2 with ⟨_, h5⟩ | ⟨q, c, cur, h5, h6, h7, h8, h9, h10, h11⟩
  · omega
  · simp only [Value.slice.injEq, Option.some.injEq, Addr.mk.injEq, and_true, true_and] at h5
    obtain ⟨rfl, rfl⟩ := h5
    refine ⟨h7.trans ?_⟩
    rw [← h11, List.take_of_length_le (by rw [Array.length_toList]; omega)]
/-- The sums at the end, the first n of them. -/
def outsL (H V : List Nat) (n : Nat) : List Nat := (List.range n).map fun i => add32 (H.getD i 0) (V.getD i 0)
theorem outsL_next (H V : List Nat) (n : Nat) : outsL H V n ++ [add32 (H.getD n 0) (V.getD n 0)] = outsL H V (n + 1) := by
  simp [outsL, List.range_succ]
theorem outsL_len (H V : List Nat) (n : Nat) : (outsL H V n).length = n := by simp [outsL]
end Go.Proofs.Ytgceepjfnncilaa
