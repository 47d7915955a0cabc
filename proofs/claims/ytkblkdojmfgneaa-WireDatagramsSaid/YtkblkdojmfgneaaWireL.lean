/- Wire: the plain law: numbers as bytes and back, parts, datagrams. -/
import Derived.Test.YtkblkdojmfgneaaShaB
import Derived.Test.YtkblkdojmfgneaaShaA
namespace Go.Proofs.Ytkblkdojmfgneaa
open Go.RowKit

def numL (l : List UInt8) (acc : Nat) : Nat := l.foldl (fun n b => n * 256 + b.toNat) acc
theorem putB_cons (n k : Nat) : putB n (k + 1) = UInt8.ofNat (n / 256 ^ k) :: putB n k := by
  unfold putB
  rw [List.range_succ_eq_map, List.map_cons, List.map_map]
  congr 1
  apply List.map_congr_left
  intro j _
  simp only [Function.comp]
  congr 3
  omega
theorem numL_put (k n acc : Nat) : numL (putB n k) acc = acc * 256 ^ k + n % 256 ^ k := by
  induction k generalizing acc with
  | zero => simp [numL, putB, Nat.mod_one]
  | succ k ih =>
    rw [putB_cons]
    show numL (putB n k) (acc * 256 + (UInt8.ofNat (n / 256 ^ k)).toNat) = _
    rw [ih, UInt8.toNat_ofNat', show 256 ^ (k + 1) = 256 ^ k * 256 from Nat.pow_succ .., Nat.mod_mul]
    rw [Nat.add_mul, Nat.mul_assoc, Nat.mul_comm 256 (256 ^ k), Nat.mul_comm (n / 256 ^ k % 2 ^ 8), show (2 ^ 8 : Nat) = 256 from rfl]
    omega
theorem putB_mod (k n m : Nat) (h : n % 256 ^ k = m % 256 ^ k) : putB n k = putB m k := by
  induction k with
  | zero => rfl
  | succ k ih =>
    have h1 : n % 256 ^ k = m % 256 ^ k := by
      have := congrArg (· % 256 ^ k) h
      simpa [Nat.pow_succ, Nat.mod_mul_right_mod] using this
    have h2 : n / 256 ^ k % 256 = m / 256 ^ k % 256 := by
      have := congrArg (· / 256 ^ k) h
      simpa [Nat.pow_succ, Nat.mod_mul_right_div_self] using this
    rw [putB_cons, putB_cons, ih h1]
    have e : UInt8.ofNat (n / 256 ^ k) = UInt8.ofNat (m / 256 ^ k) := UInt8.toNat_inj.1 (by rw [UInt8.toNat_ofNat', UInt8.toNat_ofNat']; exact h2)
    rw [e]
theorem numL_acc (l : List UInt8) (acc : Nat) : numL l acc = acc * 256 ^ l.length + numL l 0 := by
  induction l generalizing acc with
  | nil => simp [numL]
  | cons b l ih =>
    show numL l (acc * 256 + b.toNat) = acc * 256 ^ (l.length + 1) + numL l (0 * 256 + b.toNat)
    rw [ih (acc * 256 + b.toNat), ih (0 * 256 + b.toNat), Nat.pow_succ, Nat.add_mul, Nat.mul_assoc, Nat.mul_comm 256, Nat.zero_mul, Nat.zero_add]
    omega
theorem numL_lt (l : List UInt8) : numL l 0 < 256 ^ l.length := by
  induction l with
  | nil => simp [numL]
  | cons b l ih =>
    show numL l (0 * 256 + b.toNat) < 256 ^ (l.length + 1)
    rw [numL_acc, Nat.pow_succ]
    have hb := b.toNat_lt
    have : (0 * 256 + b.toNat) * 256 ^ l.length ≤ 255 * 256 ^ l.length := Nat.mul_le_mul_right _ (by omega)
    omega
theorem put_numL (l : List UInt8) : putB (numL l 0) l.length = l := by
  induction l with
  | nil => rfl
  | cons b l ih =>
    have e0 : numL (b :: l) 0 = b.toNat * 256 ^ l.length + numL l 0 := by
      show numL l (0 * 256 + b.toNat) = _
      rw [numL_acc]; simp
    have hlt := numL_lt l
    have hp : 0 < 256 ^ l.length := Nat.pow_pos (by decide)
    rw [List.length_cons, putB_cons, e0]
    have e1 : (b.toNat * 256 ^ l.length + numL l 0) / 256 ^ l.length = b.toNat := by
      rw [Nat.mul_comm, Nat.mul_add_div hp, Nat.div_eq_of_lt hlt]; rfl
    have e2 : putB (b.toNat * 256 ^ l.length + numL l 0) l.length = putB (numL l 0) l.length := putB_mod _ _ _ (by rw [Nat.mul_comm, Nat.mul_add_mod])
    rw [e1, e2, ih]
    have : UInt8.ofNat b.toNat = b := by apply UInt8.toNat_inj.1; rw [UInt8.toNat_ofNat']; have := b.toNat_lt; omega
    rw [this]
theorem getJ_numL (s : ByteArray) (j : Nat) (h : s.size ≤ j) : getJ s j = numL s.data.toList 0 := by
  unfold getJ numL
  rw [List.take_of_length_le (by show s.data.toList.length ≤ j; exact h)]
/-- A number's bytes, as a text. -/
def putS (n k : Nat) : ByteArray := ⟨(putB n k).toArray⟩
theorem putS_size (n k : Nat) : (putS n k).size = k := by unfold putS; rw [ba_size]; simp [putB_len]
/-- A text's number. -/
def getS (s : ByteArray) : Nat := getJ s s.size
theorem getS_put (n k : Nat) (hn : n < 256 ^ k) : getS (putS n k) = n := by
  unfold getS
  rw [getJ_numL _ _ (Nat.le_refl _)]
  show numL (putB n k) 0 = n
  rw [numL_put, Nat.zero_mul, Nat.zero_add, Nat.mod_eq_of_lt hn]
theorem put_getS (s : ByteArray) (k : Nat) (h : s.size = k) : putS (getS s) k = s := by
  apply ba_ext
  unfold getS
  rw [getJ_numL _ _ (Nat.le_refl _)]
  have := put_numL s.data.toList
  rwa [show s.data.toList.length = k from h] at this
theorem getS_lt (s : ByteArray) (k : Nat) (h : s.size = k) : getS s < 256 ^ k := by
  unfold getS
  rw [getJ_numL _ _ (Nat.le_refl _)]
  have := numL_lt s.data.toList
  rwa [show s.data.toList.length = k from h] at this
theorem ext_mid (a b c : ByteArray) (i j : Nat) (hi : a.size = i) (hj : b.size = j - i) (hij : i ≤ j) : (a ++ b ++ c).extract i j = b := by
  apply ba_ext
  have e1 : a.data.toList.length = i := hi
  have e2 : b.data.toList.length = j - i := hj
  rw [ba_extract, ba_app, ba_app, List.append_assoc, ← e1, List.drop_left, e1, ← e2, List.take_left]
theorem ext_zero (a b : ByteArray) (i : Nat) (hi : a.size = i) : (a ++ b).extract 0 i = a := by
  subst hi
  apply ba_ext
  rw [ba_extract, ba_app, List.drop_zero, Nat.sub_zero, ba_size, List.take_left]
theorem ext_ext (t : ByteArray) (i k l : Nat) (h : i + l ≤ t.size) : (t.extract i t.size).extract k l = t.extract (i + k) (i + l) := by
  rw [ByteArray.extract_extract, Nat.min_eq_left h]
theorem ext_join (t : ByteArray) (i j k : Nat) (h : i ≤ j) (h2 : j ≤ k) : t.extract i j ++ t.extract j k = t.extract i k := by
  rw [ByteArray.extract_append_extract, Nat.min_eq_left h, Nat.max_eq_right h2]
/-- A part's bytes; its fields. -/
def nOf (ix : Nat) (la : Bool) : Nat := if la then ix + 32768 else ix
def partB (st rp nb ix : Nat) (la : Bool) (tx : ByteArray) : ByteArray := putS st 2 ++ putS rp 2 ++ putS nb 8 ++ putS (nOf ix la) 2 ++ tx
theorem partB_size (st rp nb ix : Nat) (la : Bool) (tx : ByteArray) : (partB st rp nb ix la tx).size = 14 + tx.size := by
  unfold partB; simp only [sz_app, putS_size]
def rSt (s : ByteArray) : Nat := getS (s.extract 0 2)
def rRp (s : ByteArray) : Nat := getS (s.extract 2 4)
def rNb (s : ByteArray) : Nat := getS (s.extract 4 12)
def rN (s : ByteArray) : Nat := getS (s.extract 12 14)
def rIx (s : ByteArray) : Nat := rN s % 32768
def rLa (s : ByteArray) : Bool := decide (32768 ≤ rN s)
def rTx (s : ByteArray) : ByteArray := s.extract 14 s.size
theorem ext_sz (s : ByteArray) (a b : Nat) (hb : b ≤ s.size) (h : a ≤ b) : (s.extract a b).size = b - a := by rw [sz_ext]; omega
theorem rSt_lt (s : ByteArray) (h : 14 ≤ s.size) : rSt s < 65536 := getS_lt _ 2 (by rw [ext_sz] <;> omega)
theorem rRp_lt (s : ByteArray) (h : 14 ≤ s.size) : rRp s < 65536 := getS_lt _ 2 (by rw [ext_sz] <;> omega)
theorem rNb_lt (s : ByteArray) (h : 14 ≤ s.size) : rNb s < 18446744073709551616 := getS_lt _ 8 (by rw [ext_sz] <;> omega)
theorem rN_lt (s : ByteArray) (h : 14 ≤ s.size) : rN s < 65536 := getS_lt _ 2 (by rw [ext_sz] <;> omega)
section
variable (st rp nb ix : Nat) (la : Bool) (tx : ByteArray)
theorem rSt_partB (h : st < 65536) : rSt (partB st rp nb ix la tx) = st := by
  unfold rSt partB
  rw [ByteArray.append_assoc, ByteArray.append_assoc, ByteArray.append_assoc, ext_zero _ _ 2 (putS_size _ _), getS_put _ _ h]
theorem rRp_partB (h : rp < 65536) : rRp (partB st rp nb ix la tx) = rp := by
  unfold rRp partB
  rw [ByteArray.append_assoc, ByteArray.append_assoc, ext_mid _ _ _ 2 4 (putS_size _ _) (putS_size _ _) (by decide), getS_put _ _ h]
theorem rNb_partB (h : nb < 18446744073709551616) : rNb (partB st rp nb ix la tx) = nb := by
  unfold rNb partB
  rw [ByteArray.append_assoc, ext_mid _ _ _ 4 12 (by simp only [sz_app, putS_size]) (putS_size _ _) (by decide), getS_put _ _ h]
theorem rN_partB (h : ix < 32768) : rN (partB st rp nb ix la tx) = nOf ix la := by
  unfold rN partB
  rw [ext_mid _ _ _ 12 14 (by simp only [sz_app, putS_size]) (putS_size _ _) (by decide), getS_put _ _ (by unfold nOf; split <;> omega)]
theorem rIx_partB (h : ix < 32768) : rIx (partB st rp nb ix la tx) = ix := by
  unfold rIx
  rw [rN_partB _ _ _ _ _ _ h]
  unfold nOf; split <;> omega
theorem rLa_partB (h : ix < 32768) : rLa (partB st rp nb ix la tx) = la := by
  unfold rLa
  rw [rN_partB _ _ _ _ _ _ h]
  unfold nOf; cases la <;> simp <;> omega
theorem rTx_partB : rTx (partB st rp nb ix la tx) = tx := by
  unfold rTx partB
  exact ext_app _ _ 14 (by simp only [sz_app, putS_size])
end
theorem part_read (s : ByteArray) (h : 14 ≤ s.size) : partB (rSt s) (rRp s) (rNb s) (rIx s) (rLa s) (rTx s) = s := by
  have hn := rN_lt s h
  have e : nOf (rIx s) (rLa s) = rN s := by
    unfold nOf rIx rLa
    by_cases hc : 32768 ≤ rN s
    · simp [hc]; omega
    · simp [hc]; omega
  unfold partB
  rw [e]
  unfold rSt rRp rNb rN rTx
  rw [put_getS _ _ (by rw [ext_sz] <;> omega), put_getS _ _ (by rw [ext_sz] <;> omega), put_getS _ _ (by rw [ext_sz] <;> omega), put_getS _ _ (by rw [ext_sz] <;> omega)]
  rw [ext_join s 0 2 4 (by omega) (by omega), ext_join s 0 4 12 (by omega) (by omega), ext_join s 0 12 14 (by omega) (by omega), ext_join s 0 14 s.size (by omega) h, ByteArray.extract_zero_size]
/-- A datagram's bytes. -/
def gramB (id nonce : Nat) (sealed_ : ByteArray) : ByteArray := putS id 8 ++ putS nonce 8 ++ sealed_
theorem gramB_size (id nonce : Nat) (s : ByteArray) : (gramB id nonce s).size = 16 + s.size := by unfold gramB; simp only [sz_app, putS_size]
def gId (s : ByteArray) : Nat := getS (s.extract 0 8)
def gNo (s : ByteArray) : Nat := getS (s.extract 8 16)
def gSe (s : ByteArray) : ByteArray := s.extract 16 s.size
theorem gId_lt (s : ByteArray) (h : 16 ≤ s.size) : gId s < 18446744073709551616 := getS_lt _ 8 (by rw [ext_sz] <;> omega)
theorem gNo_lt (s : ByteArray) (h : 16 ≤ s.size) : gNo s < 18446744073709551616 := getS_lt _ 8 (by rw [ext_sz] <;> omega)
theorem gId_gramB (id nonce : Nat) (s : ByteArray) (h : id < 18446744073709551616) : gId (gramB id nonce s) = id := by
  unfold gId gramB
  rw [ByteArray.append_assoc, ext_zero _ _ 8 (putS_size _ _), getS_put _ _ h]
theorem gNo_gramB (id nonce : Nat) (s : ByteArray) (h : nonce < 18446744073709551616) : gNo (gramB id nonce s) = nonce := by
  unfold gNo gramB
  rw [ext_mid _ _ _ 8 16 (putS_size _ _) (putS_size _ _) (by decide), getS_put _ _ h]
theorem gSe_gramB (id nonce : Nat) (s : ByteArray) : gSe (gramB id nonce s) = s := by
  unfold gSe gramB
  exact ext_app _ _ 16 (by simp only [sz_app, putS_size])
theorem gram_read (s : ByteArray) (h : 16 ≤ s.size) : gramB (gId s) (gNo s) (gSe s) = s := by
  unfold gramB gId gNo gSe
  rw [put_getS _ _ (by rw [ext_sz] <;> omega), put_getS _ _ (by rw [ext_sz] <;> omega), ext_join s 0 8 16 (by omega) (by omega), ext_join s 0 16 s.size (by omega) h, ByteArray.extract_zero_size]
end Go.Proofs.Ytkblkdojmfgneaa
