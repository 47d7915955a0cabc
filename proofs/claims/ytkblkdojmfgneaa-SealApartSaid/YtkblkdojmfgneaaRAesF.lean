/- The document's AES: the words of a key, as one row of bytes: the plain law. -/
import Derived.Test.YtkblkdojmfgneaaRAes3
namespace Go.Proofs.Ytkblkdojmfgneaa

theorem words_old (key : List UInt8) (hk : key.length = 16) (i k : Nat) (hi : i < 4) (h4 : k < 4) : (keysN key 10).getD (4 * i + k) 0 = key.getD (4 * i + k) 0 := by
  have := keysN_get key hk 0 (4 * i + k) (by omega) 10 (by omega)
  rw [Nat.mul_zero, Nat.zero_add] at this
  exact this
theorem words_rest (key : List UInt8) (hk : key.length = 16) (i k : Nat) (h0 : 4 ≤ i) (h44 : i < 44) (hm : i % 4 ≠ 0) (h4 : k < 4) :
    (keysN key 10).getD (4 * i + k) 0 = (keysN key 10).getD (4 * (i - 4) + k) 0 ^^^ (keysN key 10).getD (4 * (i - 1) + k) 0 := by
  obtain ⟨r, hr⟩ : ∃ r, i / 4 = r + 1 := ⟨i / 4 - 1, by omega⟩
  obtain ⟨j, hj⟩ : ∃ j, 4 * (i % 4) + k = j := ⟨_, rfl⟩
  have e1 := keysN_get key hk (r + 1) j (by omega) 10 (by omega)
  have e2 := keysN_get key hk r j (by omega) 10 (by omega)
  have e3 := keysN_get key hk (r + 1) (j - 4) (by omega) 10 (by omega)
  rw [show 16 * (r + 1) + j = 4 * i + k by omega] at e1
  rw [show 16 * r + j = 4 * (i - 4) + k by omega] at e2
  rw [show 16 * (r + 1) + (j - 4) = 4 * (i - 1) + k by omega] at e3
  rw [e1, e2, e3, show keyR key (r + 1) = nextK (keyR key r) (turnL r) from rfl, nextK_get _ _ j (by omega), if_neg (by omega), if_neg (by omega)]
/-- The word ahead, turned. -/
def turnedW (F : List UInt8) (i : Nat) (con : UInt8) : List UInt8 :=
  [subL (F.getD (4 * (i - 1) + 1) 0) ^^^ con, subL (F.getD (4 * (i - 1) + 2) 0), subL (F.getD (4 * (i - 1) + 3) 0), subL (F.getD (4 * (i - 1)) 0)]
theorem words_turn (key : List UInt8) (hk : key.length = 16) (r k : Nat) (hr : r < 10) (h4 : k < 4) :
    (keysN key 10).getD (4 * (4 * (r + 1)) + k) 0 = (keysN key 10).getD (4 * (4 * (r + 1) - 4) + k) 0 ^^^ (turnedW (keysN key 10) (4 * (r + 1)) (turnL r)).getD k 0 := by
  have e1 := keysN_get key hk (r + 1) k (by omega) 10 (by omega)
  have e2 := keysN_get key hk r k (by omega) 10 (by omega)
  have f0 := keysN_get key hk r 12 (by omega) 10 (by omega)
  have f1 := keysN_get key hk r 13 (by omega) 10 (by omega)
  have f2 := keysN_get key hk r 14 (by omega) 10 (by omega)
  have f3 := keysN_get key hk r 15 (by omega) 10 (by omega)
  rw [show 4 * (4 * (r + 1)) + k = 16 * (r + 1) + k by omega, e1, show 4 * (4 * (r + 1) - 4) + k = 16 * r + k by omega, e2]
  unfold turnedW
  rw [show 4 * (4 * (r + 1) - 1) = 16 * r + 12 by omega, show 16 * r + 12 + 1 = 16 * r + 13 by omega, show 16 * r + 12 + 2 = 16 * r + 14 by omega, show 16 * r + 12 + 3 = 16 * r + 15 by omega, f0, f1, f2, f3]
  rw [show keyR key (r + 1) = nextK (keyR key r) (turnL r) from rfl, nextK_get _ _ k (by omega)]
  obtain rfl | rfl | rfl | rfl : k = 0 ∨ k = 1 ∨ k = 2 ∨ k = 3 := by omega
  · rw [if_pos rfl, UInt8.xor_assoc]; rfl
  · rfl
  · rfl
  · rfl
theorem flat_snoc (F : List UInt8) (i : Nat) (h : 4 * i + 4 ≤ F.length) : (F.take (4 * (i + 1))).map bval = (F.take (4 * i)).map bval ++ [bval (F.getD (4 * i) 0), bval (F.getD (4 * i + 1) 0), bval (F.getD (4 * i + 2) 0), bval (F.getD (4 * i + 3) 0)] := by
  rw [show 4 * (i + 1) = 4 * i + 3 + 1 by omega, take_snoc F _ (by omega), show 4 * i + 3 = 4 * i + 2 + 1 by omega, take_snoc F _ (by omega), show 4 * i + 2 = 4 * i + 1 + 1 by omega, take_snoc F _ (by omega), take_snoc F _ (by omega)]
  simp
end Go.Proofs.Ytkblkdojmfgneaa
