/- CTR: the plain law. -/
import Derived.Test.YtkblkdojmfgneaaAesL
import Derived.Test.YtkblkdojmfgneaaShaB
namespace Go.Proofs.Ytkblkdojmfgneaa

/-- The block of a number. -/
def ctrB (nonce i : Nat) : List UInt8 := putB nonce 8 ++ putB i 8
theorem ctrB_len (nonce i : Nat) : (ctrB nonce i).length = 16 := by simp [ctrB, putB_len]
def strB (key : List UInt8) (nonce i : Nat) : List UInt8 := encL key (ctrB nonce i)
theorem strB_len (key : List UInt8) (nonce i : Nat) (hk : key.length = 16) : (strB key nonce i).length = 16 := encL_len key _ hk (ctrB_len _ _)
/-- So many whole blocks. -/
def strA (key : List UInt8) (nonce : Nat) : Nat → List UInt8
  | 0 => []
  | n + 1 => strA key nonce n ++ strB key nonce n
theorem strA_len (key : List UInt8) (nonce : Nat) (hk : key.length = 16) : ∀ n, (strA key nonce n).length = 16 * n
  | 0 => rfl
  | n + 1 => by rw [strA, List.length_append, strA_len key nonce hk n, strB_len key nonce n hk]; omega
theorem strA_pre (key : List UInt8) (nonce n : Nat) : ∀ m, ∃ r, strA key nonce (n + m) = strA key nonce n ++ r
  | 0 => ⟨[], by simp⟩
  | m + 1 => by
    obtain ⟨r, hr⟩ := strA_pre key nonce n m
    exact ⟨r ++ strB key nonce (n + m), by rw [show n + (m + 1) = (n + m) + 1 by omega, strA, hr, List.append_assoc]⟩
def streamL (key : List UInt8) (nonce n : Nat) : List UInt8 := (strA key nonce ((n + 15) / 16)).take n
theorem streamL_len (key : List UInt8) (nonce n : Nat) (hk : key.length = 16) : (streamL key nonce n).length = n := by
  unfold streamL
  rw [List.length_take, strA_len key nonce hk]; omega
theorem streamL_more (key : List UInt8) (nonce n k : Nat) (hk : key.length = 16) (h : n ≤ 16 * k) : streamL key nonce n = (strA key nonce k).take n := by
  unfold streamL
  obtain ⟨r, hr⟩ := strA_pre key nonce ((n + 15) / 16) (k - (n + 15) / 16)
  rw [show (n + 15) / 16 + (k - (n + 15) / 16) = k by omega] at hr
  rw [hr, List.take_append_of_le_length (by rw [strA_len key nonce hk]; omega)]
theorem streamL_pre (key : List UInt8) (nonce n m : Nat) (hk : key.length = 16) : Lib.hasPrefix (streamL key nonce (n + m)) (streamL key nonce n) = true := by
  unfold Lib.hasPrefix
  rw [List.isPrefixOf_iff_prefix, streamL_more key nonce n ((n + m + 15) / 16) hk (by omega)]
  refine ⟨(streamL key nonce (n + m)).drop n, ?_⟩
  have := List.take_append_drop n (streamL key nonce (n + m))
  unfold streamL at this ⊢
  rw [List.take_take, Nat.min_eq_left (by omega)] at this
  exact this
theorem streamL_at (key : List UInt8) (nonce i : Nat) (hk : key.length = 16) : (streamL key nonce (16 * (i + 1))).drop (16 * i) = strB key nonce i := by
  rw [streamL_more key nonce _ (i + 1) hk (Nat.le_refl _), List.take_of_length_le (by rw [strA_len key nonce hk]; exact Nat.le_refl _), strA, List.drop_left' (strA_len key nonce hk i)]
def xorZ (a b : List UInt8) : List UInt8 := List.zipWith (· ^^^ ·) a b
def turnS (key : List UInt8) (nonce : Nat) (s : List UInt8) : List UInt8 := xorZ s (streamL key nonce s.length)
theorem turnS_len (key : List UInt8) (nonce : Nat) (s : List UInt8) (hk : key.length = 16) : (turnS key nonce s).length = s.length := by
  unfold turnS xorZ
  rw [List.length_zipWith, streamL_len key nonce _ hk, Nat.min_self]
theorem xorZ_twice : ∀ (a b : List UInt8), a.length = b.length → xorZ (xorZ a b) b = a
  | [], [], _ => rfl
  | x :: a, y :: b, h => by
    have := xorZ_twice a b (by simpa using h)
    simp only [xorZ, List.zipWith_cons_cons] at this ⊢
    rw [this, UInt8.xor_assoc, UInt8.xor_self, UInt8.xor_zero]
theorem turnS_twice (key : List UInt8) (nonce : Nat) (s : List UInt8) (hk : key.length = 16) : turnS key nonce (turnS key nonce s) = s := by
  have h1 := turnS_len key nonce s hk
  have h2 : turnS key nonce (turnS key nonce s) = xorZ (xorZ s (streamL key nonce s.length)) (streamL key nonce s.length) := by
    show xorZ (xorZ s (streamL key nonce s.length)) (streamL key nonce (xorZ s (streamL key nonce s.length)).length) = _
    rw [show (xorZ s (streamL key nonce s.length)).length = s.length from h1]
  rw [h2, xorZ_twice _ _ (streamL_len key nonce _ hk).symm]
theorem turnS_noughts (key : List UInt8) (nonce n : Nat) (hk : key.length = 16) : turnS key nonce (List.replicate n 0) = streamL key nonce n := by
  unfold turnS
  rw [List.length_replicate]
  have h : ∀ (l : List UInt8) (m : Nat), l.length = m → xorZ (List.replicate m 0) l = l := by
    intro l
    induction l with
    | nil => intro m hm; subst hm; rfl
    | cons x r ih =>
      intro m hm
      subst hm
      simp only [xorZ, List.length_cons, List.replicate_succ, List.zipWith_cons_cons] at ih ⊢
      rw [ih _ rfl, UInt8.zero_xor]
  exact h _ _ (streamL_len key nonce n hk)
theorem turnS_pre (key : List UInt8) (nonce : Nat) (s t : List UInt8) (hk : key.length = 16) : Lib.hasPrefix (turnS key nonce (s ++ t)) (turnS key nonce s) = true := by
  unfold Lib.hasPrefix
  rw [List.isPrefixOf_iff_prefix]
  have h1 := streamL_pre key nonce s.length t.length hk
  unfold Lib.hasPrefix at h1
  rw [List.isPrefixOf_iff_prefix] at h1
  obtain ⟨r, hr⟩ := h1
  refine ⟨xorZ t r, ?_⟩
  unfold turnS xorZ
  rw [List.length_append, ← hr, List.zipWith_append (by rw [streamL_len key nonce _ hk])]
theorem turnS_get (key : List UInt8) (nonce : Nat) (s : List UInt8) (i : Nat) (hk : key.length = 16) (h : i < s.length) : (turnS key nonce s).getD i 0 = s.getD i 0 ^^^ (streamL key nonce (i + 1)).getD i 0 := by
  have hl := streamL_len key nonce s.length hk
  have hl2 := streamL_len key nonce (i + 1) hk
  have e : (streamL key nonce (i + 1))[i]? = (streamL key nonce s.length)[i]? := by
    have h1 := streamL_pre key nonce (i + 1) (s.length - (i + 1)) hk
    unfold Lib.hasPrefix at h1
    rw [List.isPrefixOf_iff_prefix, show i + 1 + (s.length - (i + 1)) = s.length by omega] at h1
    obtain ⟨r, hr⟩ := h1
    rw [← hr, List.getElem?_append_left (by omega)]
  unfold turnS xorZ
  rw [List.getD_eq_getElem?_getD, List.getD_eq_getElem?_getD, List.getD_eq_getElem?_getD, e, List.getElem?_zipWith, List.getElem?_eq_getElem h, List.getElem?_eq_getElem (by omega : i < (streamL key nonce s.length).length)]
  rfl
end Go.Proofs.Ytkblkdojmfgneaa
