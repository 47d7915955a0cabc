/- The plain law of sums: SHA-256, by numbers. -/
import Derived.Test.YtkblkdojmfgneaaLawKit
namespace Go.Proofs.Ytkblkdojmfgneaa

/-- f at n, with n reckoned first. -/
def reck {α : Type} (n : Nat) (f : Nat → α) : α := match n with
  | 0 => f 0
  | k + 1 => f (k + 1)
theorem reck_eq {α : Type} (n : Nat) (f : Nat → α) : reck n f = f n := by cases n <;> rfl
/-- 32 bits behind the point: one bit's turn. -/
def behStep (p : Nat) (three : Bool) (x bit : Nat) : Nat :=
  if (if three then (x ||| bit) * (x ||| bit) * (x ||| bit) else (x ||| bit) * (x ||| bit)) ≤ (if three then p * 2 ^ 96 else p * 2 ^ 64) then x ||| bit else x
def behGo (p : Nat) (three : Bool) : Nat → Nat → Nat
  | 0, x => x
  | n + 1, x => reck (behStep p three x (2 ^ n)) (behGo p three n)
def behL (p : Nat) (three : Bool) : Nat := behGo p three 37 0 % 2 ^ 32
def primeOk : List Nat → Nat → Bool
  | [], _ => true
  | p :: r, c => if c < p * p then true else if c % p = 0 then false else primeOk r c
def primesGo (n : Nat) : Nat → List Nat → Nat → Option (List Nat)
  | 0, _, _ => none
  | g + 1, out, c => if out.length < n then primesGo n g (if primeOk out c then out ++ [c] else out) (c + 1) else some out
def primes64 : List Nat := [2, 3, 5, 7, 11, 13, 17, 19, 23, 29, 31, 37, 41, 43, 47, 53, 59, 61, 67, 71, 73, 79, 83, 89, 97, 101, 103, 107, 109, 113, 127, 131, 137, 139, 149, 151, 157, 163, 167, 173, 179, 181, 191, 193, 197, 199, 211, 223, 227, 229, 233, 239, 241, 251, 257, 263, 269, 271, 277, 281, 283, 293, 307, 311]
theorem primes_64 : primesGo 64 400 [] 2 = some primes64 := by kernel_rfl
theorem primes_8 : primesGo 8 400 [] 2 = some [2, 3, 5, 7, 11, 13, 17, 19] := by kernel_rfl
def constK : List Nat := [0x428a2f98, 0x71374491, 0xb5c0fbcf, 0xe9b5dba5, 0x3956c25b, 0x59f111f1, 0x923f82a4, 0xab1c5ed5,
  0xd807aa98, 0x12835b01, 0x243185be, 0x550c7dc3, 0x72be5d74, 0x80deb1fe, 0x9bdc06a7, 0xc19bf174,
  0xe49b69c1, 0xefbe4786, 0x0fc19dc6, 0x240ca1cc, 0x2de92c6f, 0x4a7484aa, 0x5cb0a9dc, 0x76f988da,
  0x983e5152, 0xa831c66d, 0xb00327c8, 0xbf597fc7, 0xc6e00bf3, 0xd5a79147, 0x06ca6351, 0x14292967,
  0x27b70a85, 0x2e1b2138, 0x4d2c6dfc, 0x53380d13, 0x650a7354, 0x766a0abb, 0x81c2c92e, 0x92722c85,
  0xa2bfe8a1, 0xa81a664b, 0xc24b8b70, 0xc76c51a3, 0xd192e819, 0xd6990624, 0xf40e3585, 0x106aa070,
  0x19a4c116, 0x1e376c08, 0x2748774c, 0x34b0bcb5, 0x391c0cb3, 0x4ed8aa4a, 0x5b9cca4f, 0x682e6ff3,
  0x748f82ee, 0x78a5636f, 0x84c87814, 0x8cc70208, 0x90befffa, 0xa4506ceb, 0xbef9a3f7, 0xc67178f2]
def constH : List Nat := [0x6a09e667, 0xbb67ae85, 0x3c6ef372, 0xa54ff53a, 0x510e527f, 0x9b05688c, 0x1f83d9ab, 0x5be0cd19]
theorem keys_const : primes64.map (behL · true) = constK := by kernel_rfl
theorem start_const : [2, 3, 5, 7, 11, 13, 17, 19].map (behL · false) = constH := by kernel_rfl
/-! A block's turn. -/
def rotr (x n : Nat) : Nat := (x >>> n) ||| ((x <<< (32 - n)) % 2 ^ 32)
def add32 (a b : Nat) : Nat := (a + b) % 2 ^ 32
def sig0 (x : Nat) : Nat := rotr x 7 ^^^ rotr x 18 ^^^ (x >>> 3)
def sig1 (x : Nat) : Nat := rotr x 17 ^^^ rotr x 19 ^^^ (x >>> 10)
def be32 (s : List UInt8) (i : Nat) : Nat := (s.getD (4 * i) 0).toNat * 2 ^ 24 + (s.getD (4 * i + 1) 0).toNat * 2 ^ 16 + (s.getD (4 * i + 2) 0).toNat * 2 ^ 8 + (s.getD (4 * i + 3) 0).toNat
/-- The next word: those there are stand in w. -/
def nextW (s : List UInt8) (w : List Nat) (i : Nat) : Nat :=
  if i < 16 then be32 s i else add32 (add32 (add32 (w.getD (i - 16) 0) (sig0 (w.getD (i - 15) 0))) (w.getD (i - 7) 0)) (sig1 (w.getD (i - 2) 0))
structure St where
  a : Nat
  b : Nat
  c : Nat
  d : Nat
  e : Nat
  f : Nat
  g : Nat
  o : Nat
def Sig0 (x : Nat) : Nat := rotr x 2 ^^^ rotr x 13 ^^^ rotr x 22
def Sig1 (x : Nat) : Nat := rotr x 6 ^^^ rotr x 11 ^^^ rotr x 25
def chL (e f g : Nat) : Nat := g ^^^ (e &&& (f ^^^ g))
def majL (a b c : Nat) : Nat := (a &&& b) ||| (c &&& (a ||| b))
def tL (v : St) (k w : Nat) : Nat := add32 (add32 (add32 (add32 v.o (Sig1 v.e)) (chL v.e v.f v.g)) k) w
def uL (v : St) : Nat := add32 (Sig0 v.a) (majL v.a v.b v.c)
def roundL (v : St) (k w : Nat) : St := ⟨add32 (tL v k w) (uL v), v.a, v.b, v.c, add32 v.d (tL v k w), v.e, v.f, v.g⟩
/-- A round, all reckoned. -/
def roundR {α : Type} (v : St) (k w : Nat) (f : St → α) : α :=
  reck (tL v k w) fun t => reck (add32 t (uL v)) fun a => reck (add32 v.d t) fun e => f ⟨a, v.a, v.b, v.c, e, v.e, v.f, v.g⟩
/-- n rounds from the i-th on. -/
def roundsGo (s : List UInt8) : Nat → Nat → List Nat → St → St
  | 0, _, _, v => v
  | n + 1, i, w, v => roundsGo s n (i + 1) (w ++ [nextW s w i]) (roundL v (constK.getD i 0) (nextW s w i))
def roundsR (s : List UInt8) : Nat → Nat → List Nat → St → St
  | 0, _, _, v => v
  | n + 1, i, w, v => reck (nextW s w i) fun x => roundR v (constK.getD i 0) x fun v' => roundsR s n (i + 1) (w ++ [x]) v'
theorem roundsR_eq (s : List UInt8) : ∀ (n i : Nat) (w : List Nat) (v : St), roundsR s n i w v = roundsGo s n i w v
  | 0, _, _, _ => rfl
  | n + 1, i, w, v => by
    rw [roundsR, reck_eq, roundR, reck_eq, reck_eq, reck_eq, roundsR_eq s n, roundsGo]
    rfl
def ofW (h : List Nat) : St := ⟨h.getD 0 0, h.getD 1 0, h.getD 2 0, h.getD 3 0, h.getD 4 0, h.getD 5 0, h.getD 6 0, h.getD 7 0⟩
def stepL (h : List Nat) (s : List UInt8) : List Nat :=
  let v := roundsGo s 64 0 [] (ofW h)
  [add32 (h.getD 0 0) v.a, add32 (h.getD 1 0) v.b, add32 (h.getD 2 0) v.c, add32 (h.getD 3 0) v.d, add32 (h.getD 4 0) v.e, add32 (h.getD 5 0) v.f, add32 (h.getD 6 0) v.g, add32 (h.getD 7 0) v.o]
/-- What blocks are cut of. -/
def be64 (n : Nat) : List UInt8 := (List.range 8).map fun i => UInt8.ofNat (n / 256 ^ (7 - i))
def padN (n : Nat) : Nat := (64 - (n + 9) % 64) % 64
def wholeL (s : List UInt8) : List UInt8 := s ++ [128] ++ List.replicate (padN s.length) 0 ++ be64 (8 * s.length)
def sumGo : Nat → List Nat → List UInt8 → List Nat
  | 0, h, _ => h
  | n + 1, h, s => if s = [] then h else sumGo n (stepL h (s.take 64)) (s.drop 64)
def textL (h : List Nat) : List UInt8 := h.flatMap fun x => [UInt8.ofNat (x / 2 ^ 24), UInt8.ofNat (x / 2 ^ 16), UInt8.ofNat (x / 2 ^ 8), UInt8.ofNat x]
theorem rounds_abc : roundsR [97, 98, 99, 128, 0, 0, 0, 0, 0, 0, 0, 0, 0, 0, 0, 0, 0, 0, 0, 0, 0, 0, 0, 0, 0, 0, 0, 0, 0, 0, 0, 0, 0, 0, 0, 0, 0, 0, 0, 0, 0, 0, 0, 0, 0, 0, 0, 0, 0, 0, 0, 0, 0, 0, 0, 0, 0, 0, 0, 0, 0, 0, 0, 24] 64 0 [] (ofW constH) = ⟨0x506e3058, 0xd39a2165, 0x04d24d6c, 0xb85e2ce9, 0x5ef50f24, 0xfb121210, 0x948d25b6, 0x961f4894⟩ := by kernel_rfl
theorem whole_abc : wholeL [97, 98, 99] = [97, 98, 99, 128, 0, 0, 0, 0, 0, 0, 0, 0, 0, 0, 0, 0, 0, 0, 0, 0, 0, 0, 0, 0, 0, 0, 0, 0, 0, 0, 0, 0, 0, 0, 0, 0, 0, 0, 0, 0, 0, 0, 0, 0, 0, 0, 0, 0, 0, 0, 0, 0, 0, 0, 0, 0, 0, 0, 0, 0, 0, 0, 0, 24] := by kernel_rfl
theorem sum_abc : stepL constH (wholeL [97, 98, 99]) = [0xba7816bf, 0x8f01cfea, 0x414140de, 0x5dae2223, 0xb00361a3, 0x96177a9c, 0xb410ff61, 0xf20015ad] := by
  rw [whole_abc]
  unfold stepL
  rw [← roundsR_eq, rounds_abc]
  kernel_rfl
end Go.Proofs.Ytkblkdojmfgneaa
