/- Instructions as texts: what is put is got again, and the other way round. -/
import Derived.Test.YtpnbmfpdoipioaaTexts5
namespace Go.Proofs.Ytpnbmfpdoipioaa
open Go.RowKit

def numL (l : List UInt8) (acc : Nat) : Nat := l.foldl (fun n b => n * 256 + b.toNat) acc
theorem numL_put (k n acc : Nat) : numL (putB n k).data.toList acc = acc * 256 ^ k + n % 256 ^ k := by
  induction k generalizing acc with
  | zero => simp [numL, putB, putL, Nat.mod_one]
  | succ k ih =>
    rw [putB_succ, ba_app]
    show numL (putB n k).data.toList (acc * 256 + (UInt8.ofNat (n / 256 ^ k)).toNat) = _
    rw [ih, UInt8.toNat_ofNat', show 256 ^ (k + 1) = 256 ^ k * 256 from Nat.pow_succ .., Nat.mod_mul]
    rw [Nat.add_mul, Nat.mul_assoc, Nat.mul_comm 256 (256 ^ k), Nat.mul_comm (n / 256 ^ k % 2 ^ 8), show (2 ^ 8 : Nat) = 256 from rfl]
    omega
theorem putB_mod (k n m : Nat) (h : n % 256 ^ k = m % 256 ^ k) : putB n k = putB m k := by
  induction k with
  | zero => rfl
  | succ k ih =>
    have h1 : n % 256 ^ k = m % 256 ^ k := by
      have := congrArg (· % 256 ^ k) h
      simpa [Nat.pow_succ, Nat.mod_mul_right_mod] using this
    have h2 : n / 256 ^ k % 256 = m / 256 ^ k % 256 := by
      have := congrArg (· / 256 ^ k) h
      simpa [Nat.pow_succ, Nat.mod_mul_right_div_self] using this
    rw [putB_succ, putB_succ, ih h1]
    have e : UInt8.ofNat (n / 256 ^ k) = UInt8.ofNat (m / 256 ^ k) := UInt8.toNat_inj.1 (by rw [UInt8.toNat_ofNat', UInt8.toNat_ofNat']; exact h2)
    rw [e]
theorem numL_acc (l : List UInt8) (acc : Nat) : numL l acc = acc * 256 ^ l.length + numL l 0 := by
  induction l generalizing acc with
  | nil => simp [numL]
  | cons b l ih =>
    show numL l (acc * 256 + b.toNat) = acc * 256 ^ (l.length + 1) + numL l (0 * 256 + b.toNat)
    rw [ih (acc * 256 + b.toNat), ih (0 * 256 + b.toNat), Nat.pow_succ, Nat.add_mul, Nat.mul_assoc, Nat.mul_comm 256, Nat.zero_mul, Nat.zero_add]
    omega
theorem numL_lt (l : List UInt8) : numL l 0 < 256 ^ l.length := by
  induction l with
  | nil => simp [numL]
  | cons b l ih =>
    show numL l (0 * 256 + b.toNat) < 256 ^ (l.length + 1)
    rw [numL_acc, Nat.pow_succ]
    have hb := b.toNat_lt
    have : (0 * 256 + b.toNat) * 256 ^ l.length ≤ 255 * 256 ^ l.length := Nat.mul_le_mul_right _ (by omega)
    omega
theorem put_numL (l : List UInt8) : (putB (numL l 0) l.length).data.toList = l := by
  induction l with
  | nil => rfl
  | cons b l ih =>
    have e0 : numL (b :: l) 0 = b.toNat * 256 ^ l.length + numL l 0 := by
      show numL l (0 * 256 + b.toNat) = _
      rw [numL_acc]; simp
    have hlt := numL_lt l
    have hp : 0 < 256 ^ l.length := Nat.pow_pos (by decide)
    rw [List.length_cons, putB_succ, ba_app, e0]
    have e1 : (b.toNat * 256 ^ l.length + numL l 0) / 256 ^ l.length = b.toNat := by
      rw [Nat.mul_comm, Nat.mul_add_div hp, Nat.div_eq_of_lt hlt]; rfl
    have e2 : putB (b.toNat * 256 ^ l.length + numL l 0) l.length = putB (numL l 0) l.length := putB_mod _ _ _ (by rw [Nat.mul_comm, Nat.mul_add_mod])
    rw [e1, e2, ih]
    have : UInt8.ofNat b.toNat = b := by apply UInt8.toNat_inj.1; rw [UInt8.toNat_ofNat']; have := b.toNat_lt; omega
    rw [this]; rfl
theorem getJ_numL (s : ByteArray) (j : Nat) (h : s.size ≤ j) : getJ s j = numL s.data.toList 0 := by
  unfold getJ numL
  rw [List.take_of_length_le (by show s.data.toList.length ≤ j; exact h)]
theorem getJ_put (n : Nat) (hn : n ≤ 18446744073709551615) : getJ (putB n 8) 8 = n := by
  rw [getJ_numL _ _ (by rw [putB_size]; exact Nat.le_refl _), numL_put]
  omega
theorem put_getJ (s : ByteArray) (h : s.size = 8) : putB (getJ s 8) 8 = s := by
  apply ba_ext
  rw [getJ_numL _ _ (by omega)]
  have := put_numL s.data.toList
  rwa [show s.data.toList.length = 8 from h] at this
theorem ext_mid (a b c : ByteArray) (i j : Nat) (hi : a.size = i) (hj : b.size = j - i) (hij : i ≤ j) : (a ++ b ++ c).extract i j = b := by
  apply ba_ext
  have e1 : a.data.toList.length = i := hi
  have e2 : b.data.toList.length = j - i := hj
  rw [ba_extract, ba_app, ba_app, List.append_assoc, ← e1, List.drop_left, e1, ← e2, List.take_left]
section
variable (a b c d : Nat) (s : ByteArray)
theorem textB_size : (textB a b c d s).size = 32 + s.size := by
  unfold textB; simp only [sz_app, putB_size]
theorem pt_text0 : pt (textB a b c d s) 0 = putB a 8 := by
  have := ext_mid ⟨#[]⟩ (putB a 8) (putB b 8 ++ putB c 8 ++ putB d 8 ++ s) 0 8 rfl (putB_size a 8) (by decide)
  rw [show (⟨#[]⟩ : ByteArray) ++ putB a 8 = putB a 8 from ba_ext (by rw [ba_app]; rfl)] at this
  unfold pt textB
  simpa only [ByteArray.append_assoc] using this
theorem pt_text1 : pt (textB a b c d s) 1 = putB b 8 := by
  have := ext_mid (putB a 8) (putB b 8) (putB c 8 ++ putB d 8 ++ s) 8 16 (putB_size a 8) (putB_size b 8) (by decide)
  unfold pt textB
  simpa only [ByteArray.append_assoc] using this
theorem pt_text2 : pt (textB a b c d s) 2 = putB c 8 := by
  have := ext_mid (putB a 8 ++ putB b 8) (putB c 8) (putB d 8 ++ s) 16 24 (by simp only [sz_app, putB_size]) (putB_size c 8) (by decide)
  unfold pt textB
  simpa only [ByteArray.append_assoc] using this
theorem pt_text3 : pt (textB a b c d s) 3 = putB d 8 := by
  have := ext_mid (putB a 8 ++ putB b 8 ++ putB c 8) (putB d 8) s 24 32 (by simp only [sz_app, putB_size]) (putB_size d 8) (by decide)
  unfold pt textB
  simpa only [ByteArray.append_assoc] using this
theorem pr_text : pr (textB a b c d s) = s := ext_app (putB a 8 ++ putB b 8 ++ putB c 8 ++ putB d 8) s 32 (by simp only [sz_app, putB_size])
end
theorem text_parts (t : ByteArray) (h : 32 ≤ t.size) : textB (pn t 0) (pn t 1) (pn t 2) (pn t 3) (pr t) = t := by
  unfold textB pn
  rw [put_getJ _ (pt_size t 0 (by omega)), put_getJ _ (pt_size t 1 (by omega)), put_getJ _ (pt_size t 2 (by omega)), put_getJ _ (pt_size t 3 (by omega))]
  apply ba_ext
  unfold pt pr
  simp only [ba_app, ba_extract]
  have e : t.data.toList.length = t.size := rfl
  generalize t.data.toList = l at e
  rw [← e, List.take_of_length_le (by simp : (l.drop 32).length ≤ l.length - 32)]
  have key : ∀ i, l.drop i = (l.drop i).take 8 ++ l.drop (i + 8) := fun i => by rw [← List.drop_drop, List.take_append_drop]
  have k0 := key 0; have k1 := key 8; have k2 := key 16; have k3 := key 24
  rw [List.drop_zero] at k0
  simp only [Nat.mul_zero, Nat.zero_add, Nat.mul_one, List.drop_zero] at *
  rw [k3] at k2; rw [k2] at k1; rw [k1] at k0
  rw [List.append_assoc, List.append_assoc, List.append_assoc]
  exact k0.symm
end Go.Proofs.Ytpnbmfpdoipioaa
