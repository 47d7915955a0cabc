/- HMAC: the plain law. -/
import Derived.Test.YtgceepjfnncilaaSha9
namespace Go.Proofs.Ytgceepjfnncilaa

def padL (k : List UInt8) : List UInt8 := k ++ List.replicate (64 - k.length) 0
def keyL (k : List UInt8) : List UInt8 := if 64 < k.length then sumL k else k
def xorL (c : UInt8) (l : List UInt8) : List UInt8 := l.map (· ^^^ c)
theorem keyL_len (k : List UInt8) : (keyL k).length ≤ 64 := by
  unfold keyL
  split
  · rw [sumL_len]; decide
  · omega
theorem padL_len (k : List UInt8) (h : k.length ≤ 64) : (padL k).length = 64 := by simp [padL]; omega
theorem padL_app (k : List UInt8) (m : Nat) (h : k.length + m ≤ 64) : padL (k ++ List.replicate m 0) = padL k := by
  unfold padL
  rw [List.append_assoc, List.replicate_append_replicate]
  congr 2
  simp; omega
/-- A key's block, each byte turned. -/
def padB (k : ByteArray) (c : UInt8) : ByteArray := ⟨(xorL c (padL (keyL k.data.toList))).toArray⟩
theorem padB_size (k : ByteArray) (c : UInt8) : (padB k c).size = 64 := by
  show (xorL c (padL (keyL k.data.toList))).length = 64
  unfold xorL
  rw [List.length_map, padL_len _ (keyL_len _)]
/-- The sum of a text by a key. -/
def hmacB (k s : ByteArray) : ByteArray := sumB (padB k 92 ++ sumB (padB k 54 ++ s))
theorem hmacB_size (k s : ByteArray) : (hmacB k s).size = 32 := sumB_size _
/-- The k-th 32 bytes that are derived. -/
def lastB (key label : ByteArray) : Nat → ByteArray
  | 0 => ⟨#[]⟩
  | n + 1 => hmacB key (lastB key label n ++ label ++ ⟨#[UInt8.ofNat (n + 1)]⟩)
def allB (key label : ByteArray) : Nat → ByteArray
  | 0 => ⟨#[]⟩
  | n + 1 => allB key label n ++ lastB key label (n + 1)
theorem allB_size (key label : ByteArray) : ∀ n, (allB key label n).size = 32 * n
  | 0 => rfl
  | n + 1 => by rw [allB, ByteArray.size_append, allB_size key label n, lastB, hmacB_size]; omega
theorem lastB_size (key label : ByteArray) (n : Nat) : (lastB key label n).size ≤ 32 := by
  cases n with
  | zero => exact Nat.zero_le _
  | succ n => rw [lastB, hmacB_size]; exact Nat.le_refl _
def derB (key label : ByteArray) (n : Nat) : ByteArray := (allB key label ((n + 31) / 32)).extract 0 n
theorem derB_size (key label : ByteArray) (n : Nat) : (derB key label n).size = n := by
  unfold derB
  rw [ByteArray.size_extract, allB_size]; omega
theorem allB_pre (key label : ByteArray) (n : Nat) : ∀ m, ∃ r, (allB key label (n + m)).data.toList = (allB key label n).data.toList ++ r
  | 0 => ⟨[], by simp⟩
  | m + 1 => by
    obtain ⟨r, hr⟩ := allB_pre key label n m
    refine ⟨r ++ (lastB key label (n + m + 1)).data.toList, ?_⟩
    rw [show n + (m + 1) = (n + m) + 1 by omega, allB, ba_app, hr, List.append_assoc]
theorem derB_list (key label : ByteArray) (n : Nat) : (derB key label n).data.toList = (allB key label ((n + 31) / 32)).data.toList.take n := by
  unfold derB
  rw [ba_extract]; simp
theorem derB_more (key label : ByteArray) (n k : Nat) (h : n ≤ 32 * k) : (derB key label n).data.toList = (allB key label k).data.toList.take n := by
  rw [derB_list]
  obtain ⟨r, hr⟩ := allB_pre key label ((n + 31) / 32) (k - (n + 31) / 32)
  rw [show (n + 31) / 32 + (k - (n + 31) / 32) = k by omega] at hr
  rw [hr, List.take_append_of_le_length]
  have : (allB key label ((n + 31) / 32)).data.toList.length = 32 * ((n + 31) / 32) := allB_size key label _
  omega
theorem derB_pre (key label : ByteArray) (n m : Nat) : Lib.hasPrefix (derB key label (n + m)).data.toList (derB key label n).data.toList = true := by
  unfold Lib.hasPrefix
  rw [List.isPrefixOf_iff_prefix, derB_more key label n ((n + m + 31) / 32) (by omega), derB_list]
  refine ⟨((allB key label ((n + m + 31) / 32)).data.toList.take (n + m)).drop n, ?_⟩
  have := List.take_append_drop n ((allB key label ((n + m + 31) / 32)).data.toList.take (n + m))
  rw [List.take_take, Nat.min_eq_left (by omega)] at this
  exact this
theorem derB_at (key label : ByteArray) (k i : Nat) (h : i < k) : (derB key label (32 * k)).extract (32 * i) (32 * i + 32) = lastB key label (i + 1) := by
  apply ba_ext
  rw [ba_extract, derB_more key label (32 * k) k (Nat.le_refl _)]
  obtain ⟨r, hr⟩ := allB_pre key label (i + 1) (k - (i + 1))
  rw [show i + 1 + (k - (i + 1)) = k by omega, allB, ba_app] at hr
  have h1 : (allB key label i).data.toList.length = 32 * i := allB_size key label i
  have h2 : (lastB key label (i + 1)).data.toList.length = 32 := by rw [lastB]; exact hmacB_size _ _
  have h3 : (allB key label k).data.toList.length = 32 * k := allB_size key label k
  rw [List.take_of_length_le (l := (allB key label k).data.toList) (by omega), hr, List.append_assoc, List.drop_left' h1, show 32 * i + 32 - 32 * i = 32 by omega, List.take_left' h2]
theorem words_two (a b : List UInt8) (H1 H2 : List Nat) (ha : a.length = 64) (hb : b.length = 64) (h1 : stepL constH a = H1) (h2 : stepL H1 b = H2) : sumGo ((a ++ b).length / 64) constH (a ++ b) = H2 := by
  have hl : (a ++ b).length / 64 = 2 := by rw [List.length_append, ha, hb]
  rw [hl]
  have e1 : (a ++ b).take 64 = a := List.take_left' ha
  have e2 : (a ++ b).drop 64 = b := List.drop_left' ha
  unfold sumGo
  rw [if_neg (by intro h; have := congrArg List.length h; rw [List.length_append, ha, hb] at this; simp at this), e1, e2, h1]
  unfold sumGo
  rw [if_neg (by intro h; have := congrArg List.length h; rw [hb] at this; simp at this), List.take_of_length_le (by rw [hb]; exact Nat.le_refl _), h2]
  rfl
theorem jin_whole : wholeL [124, 83, 80, 83, 54, 54, 54, 54, 54, 54, 54, 54, 54, 54, 54, 54, 54, 54, 54, 54, 54, 54, 54, 54, 54, 54, 54, 54, 54, 54, 54, 54, 54, 54, 54, 54, 54, 54, 54, 54, 54, 54, 54, 54, 54, 54, 54, 54, 54, 54, 54, 54, 54, 54, 54, 54, 54, 54, 54, 54, 54, 54, 54, 54, 119, 104, 97, 116, 32, 100, 111, 32, 121, 97, 32, 119, 97, 110, 116, 32, 102, 111, 114, 32, 110, 111, 116, 104, 105, 110, 103, 63] = [124, 83, 80, 83, 54, 54, 54, 54, 54, 54, 54, 54, 54, 54, 54, 54, 54, 54, 54, 54, 54, 54, 54, 54, 54, 54, 54, 54, 54, 54, 54, 54, 54, 54, 54, 54, 54, 54, 54, 54, 54, 54, 54, 54, 54, 54, 54, 54, 54, 54, 54, 54, 54, 54, 54, 54, 54, 54, 54, 54, 54, 54, 54, 54] ++ [119, 104, 97, 116, 32, 100, 111, 32, 121, 97, 32, 119, 97, 110, 116, 32, 102, 111, 114, 32, 110, 111, 116, 104, 105, 110, 103, 63, 128, 0, 0, 0, 0, 0, 0, 0, 0, 0, 0, 0, 0, 0, 0, 0, 0, 0, 0, 0, 0, 0, 0, 0, 0, 0, 0, 0, 0, 0, 0, 0, 0, 0, 2, 224] := by kernel_rfl
theorem jin_r0 : roundsR [124, 83, 80, 83, 54, 54, 54, 54, 54, 54, 54, 54, 54, 54, 54, 54, 54, 54, 54, 54, 54, 54, 54, 54, 54, 54, 54, 54, 54, 54, 54, 54, 54, 54, 54, 54, 54, 54, 54, 54, 54, 54, 54, 54, 54, 54, 54, 54, 54, 54, 54, 54, 54, 54, 54, 54, 54, 54, 54, 54, 54, 54, 54, 54] 64 0 [] (ofW constH) = ⟨4216570259, 282827954, 497934937, 1631779028, 1399574868, 2973076413, 3156099383, 484868851⟩ := by kernel_rfl
theorem jin_s0 : stepL constH [124, 83, 80, 83, 54, 54, 54, 54, 54, 54, 54, 54, 54, 54, 54, 54, 54, 54, 54, 54, 54, 54, 54, 54, 54, 54, 54, 54, 54, 54, 54, 54, 54, 54, 54, 54, 54, 54, 54, 54, 54, 54, 54, 54, 54, 54, 54, 54, 54, 54, 54, 54, 54, 54, 54, 54, 54, 54, 54, 54, 54, 54, 54, 54] = [1700636666, 3426962231, 1511839179, 110292494, 2759467987, 1278932041, 3684834018, 2026328076] := by
  unfold stepL
  rw [← roundsR_eq, jin_r0]
  kernel_rfl
theorem jin_r1 : roundsR [119, 104, 97, 116, 32, 100, 111, 32, 121, 97, 32, 119, 97, 110, 116, 32, 102, 111, 114, 32, 110, 111, 116, 104, 105, 110, 103, 63, 128, 0, 0, 0, 0, 0, 0, 0, 0, 0, 0, 0, 0, 0, 0, 0, 0, 0, 0, 0, 0, 0, 0, 0, 0, 0, 0, 0, 0, 0, 0, 0, 0, 0, 2, 224] 64 0 [] (ofW [1700636666, 3426962231, 1511839179, 110292494, 2759467987, 1278932041, 3684834018, 2026328076]) = ⟨1032248716, 1894035105, 177190837, 497005535, 2734909561, 586787021, 4182101557, 1298299595⟩ := by kernel_rfl
theorem jin_s1 : stepL [1700636666, 3426962231, 1511839179, 110292494, 2759467987, 1278932041, 3684834018, 2026328076] [119, 104, 97, 116, 32, 100, 111, 32, 121, 97, 32, 119, 97, 110, 116, 32, 102, 111, 114, 32, 110, 111, 116, 104, 105, 110, 103, 63, 128, 0, 0, 0, 0, 0, 0, 0, 0, 0, 0, 0, 0, 0, 0, 0, 0, 0, 0, 0, 0, 0, 0, 0, 0, 0, 0, 0, 0, 0, 0, 0, 0, 0, 2, 224] = [2732885382, 1026030040, 1689030016, 607298029, 1199410252, 1865719062, 3571968279, 3324627671] := by
  unfold stepL
  rw [← roundsR_eq, jin_r1]
  kernel_rfl
theorem jin_words : wordsL [124, 83, 80, 83, 54, 54, 54, 54, 54, 54, 54, 54, 54, 54, 54, 54, 54, 54, 54, 54, 54, 54, 54, 54, 54, 54, 54, 54, 54, 54, 54, 54, 54, 54, 54, 54, 54, 54, 54, 54, 54, 54, 54, 54, 54, 54, 54, 54, 54, 54, 54, 54, 54, 54, 54, 54, 54, 54, 54, 54, 54, 54, 54, 54, 119, 104, 97, 116, 32, 100, 111, 32, 121, 97, 32, 119, 97, 110, 116, 32, 102, 111, 114, 32, 110, 111, 116, 104, 105, 110, 103, 63] = [2732885382, 1026030040, 1689030016, 607298029, 1199410252, 1865719062, 3571968279, 3324627671] := by
  unfold wordsL
  rw [jin_whole]
  exact words_two _ _ _ _ (by rfl) (by rfl) jin_s0 jin_s1
theorem jout_whole : wholeL [22, 57, 58, 57, 92, 92, 92, 92, 92, 92, 92, 92, 92, 92, 92, 92, 92, 92, 92, 92, 92, 92, 92, 92, 92, 92, 92, 92, 92, 92, 92, 92, 92, 92, 92, 92, 92, 92, 92, 92, 92, 92, 92, 92, 92, 92, 92, 92, 92, 92, 92, 92, 92, 92, 92, 92, 92, 92, 92, 92, 92, 92, 92, 92, 162, 228, 133, 134, 61, 39, 249, 216, 100, 172, 141, 128, 36, 50, 161, 237, 71, 125, 140, 76, 111, 52, 157, 22, 212, 231, 233, 23, 198, 41, 202, 215] = [22, 57, 58, 57, 92, 92, 92, 92, 92, 92, 92, 92, 92, 92, 92, 92, 92, 92, 92, 92, 92, 92, 92, 92, 92, 92, 92, 92, 92, 92, 92, 92, 92, 92, 92, 92, 92, 92, 92, 92, 92, 92, 92, 92, 92, 92, 92, 92, 92, 92, 92, 92, 92, 92, 92, 92, 92, 92, 92, 92, 92, 92, 92, 92] ++ [162, 228, 133, 134, 61, 39, 249, 216, 100, 172, 141, 128, 36, 50, 161, 237, 71, 125, 140, 76, 111, 52, 157, 22, 212, 231, 233, 23, 198, 41, 202, 215, 128, 0, 0, 0, 0, 0, 0, 0, 0, 0, 0, 0, 0, 0, 0, 0, 0, 0, 0, 0, 0, 0, 0, 0, 0, 0, 0, 0, 0, 0, 3, 0] := by kernel_rfl
theorem jout_r0 : roundsR [22, 57, 58, 57, 92, 92, 92, 92, 92, 92, 92, 92, 92, 92, 92, 92, 92, 92, 92, 92, 92, 92, 92, 92, 92, 92, 92, 92, 92, 92, 92, 92, 92, 92, 92, 92, 92, 92, 92, 92, 92, 92, 92, 92, 92, 92, 92, 92, 92, 92, 92, 92, 92, 92, 92, 92, 92, 92, 92, 92, 92, 92, 92, 92] 64 0 [] (ofW constH) = ⟨2762341742, 1473871847, 771439737, 2280088978, 9874120, 3534433628, 71026655, 4145050812⟩ := by kernel_rfl
theorem jout_s0 : stepL constH [22, 57, 58, 57, 92, 92, 92, 92, 92, 92, 92, 92, 92, 92, 92, 92, 92, 92, 92, 92, 92, 92, 92, 92, 92, 92, 92, 92, 92, 92, 92, 92, 92, 92, 92, 92, 92, 92, 92, 92, 92, 92, 92, 92, 92, 92, 92, 92, 92, 92, 92, 92, 92, 92, 92, 92, 92, 92, 92, 92, 92, 92, 92, 92] = [246408149, 323038828, 1785343979, 758602444, 1369767239, 1840289256, 599761290, 1391542741] := by
  unfold stepL
  rw [← roundsR_eq, jout_r0]
  kernel_rfl
theorem jout_r1 : roundsR [162, 228, 133, 134, 61, 39, 249, 216, 100, 172, 141, 128, 36, 50, 161, 237, 71, 125, 140, 76, 111, 52, 157, 22, 212, 231, 233, 23, 198, 41, 202, 215, 128, 0, 0, 0, 0, 0, 0, 0, 0, 0, 0, 0, 0, 0, 0, 0, 0, 0, 0, 0, 0, 0, 0, 0, 0, 0, 0, 0, 0, 0, 3, 0] 64 0 [] (ofW [246408149, 323038828, 1785343979, 758602444, 1369767239, 1840289256, 599761290, 1391542741]) = ⟨1294785905, 2887730914, 4288279611, 3680377595, 140198337, 796304283, 2049750831, 301659758⟩ := by kernel_rfl
theorem jout_s1 : stepL [246408149, 323038828, 1785343979, 758602444, 1369767239, 1840289256, 599761290, 1391542741] [162, 228, 133, 134, 61, 39, 249, 216, 100, 172, 141, 128, 36, 50, 161, 237, 71, 125, 140, 76, 111, 52, 157, 22, 212, 231, 233, 23, 198, 41, 202, 215, 128, 0, 0, 0, 0, 0, 0, 0, 0, 0, 0, 0, 0, 0, 0, 0, 0, 0, 0, 0, 0, 0, 0, 0, 0, 0, 0, 0, 0, 0, 3, 0] = [1541194054, 3210769742, 1778656294, 144012743, 1509965576, 2636593539, 2649512121, 1693202499] := by
  unfold stepL
  rw [← roundsR_eq, jout_r1]
  kernel_rfl
theorem jout_words : wordsL [22, 57, 58, 57, 92, 92, 92, 92, 92, 92, 92, 92, 92, 92, 92, 92, 92, 92, 92, 92, 92, 92, 92, 92, 92, 92, 92, 92, 92, 92, 92, 92, 92, 92, 92, 92, 92, 92, 92, 92, 92, 92, 92, 92, 92, 92, 92, 92, 92, 92, 92, 92, 92, 92, 92, 92, 92, 92, 92, 92, 92, 92, 92, 92, 162, 228, 133, 134, 61, 39, 249, 216, 100, 172, 141, 128, 36, 50, 161, 237, 71, 125, 140, 76, 111, 52, 157, 22, 212, 231, 233, 23, 198, 41, 202, 215] = [1541194054, 3210769742, 1778656294, 144012743, 1509965576, 2636593539, 2649512121, 1693202499] := by
  unfold wordsL
  rw [jout_whole]
  exact words_two _ _ _ _ (by rfl) (by rfl) jout_s0 jout_s1
theorem jefe : Lib.hasPrefix (hmacB ⟨#[74, 101, 102, 101]⟩ ⟨#[119, 104, 97, 116, 32, 100, 111, 32, 121, 97, 32, 119, 97, 110, 116, 32, 102, 111, 114, 32, 110, 111, 116, 104, 105, 110, 103, 63]⟩).data.toList [91, 220, 193, 70] = true := by
  have e1 : (padB ⟨#[74, 101, 102, 101]⟩ 54 ++ (⟨#[119, 104, 97, 116, 32, 100, 111, 32, 121, 97, 32, 119, 97, 110, 116, 32, 102, 111, 114, 32, 110, 111, 116, 104, 105, 110, 103, 63]⟩ : ByteArray)).data.toList = [124, 83, 80, 83, 54, 54, 54, 54, 54, 54, 54, 54, 54, 54, 54, 54, 54, 54, 54, 54, 54, 54, 54, 54, 54, 54, 54, 54, 54, 54, 54, 54, 54, 54, 54, 54, 54, 54, 54, 54, 54, 54, 54, 54, 54, 54, 54, 54, 54, 54, 54, 54, 54, 54, 54, 54, 54, 54, 54, 54, 54, 54, 54, 54, 119, 104, 97, 116, 32, 100, 111, 32, 121, 97, 32, 119, 97, 110, 116, 32, 102, 111, 114, 32, 110, 111, 116, 104, 105, 110, 103, 63] := by
    rw [ba_app]; kernel_rfl
  have h1 : (sumB (padB ⟨#[74, 101, 102, 101]⟩ 54 ++ (⟨#[119, 104, 97, 116, 32, 100, 111, 32, 121, 97, 32, 119, 97, 110, 116, 32, 102, 111, 114, 32, 110, 111, 116, 104, 105, 110, 103, 63]⟩ : ByteArray))).data.toList = [162, 228, 133, 134, 61, 39, 249, 216, 100, 172, 141, 128, 36, 50, 161, 237, 71, 125, 140, 76, 111, 52, 157, 22, 212, 231, 233, 23, 198, 41, 202, 215] := by
    rw [sumB_list, e1, sumL, jin_words]; kernel_rfl
  have e2 : (padB ⟨#[74, 101, 102, 101]⟩ 92 ++ sumB (padB ⟨#[74, 101, 102, 101]⟩ 54 ++ (⟨#[119, 104, 97, 116, 32, 100, 111, 32, 121, 97, 32, 119, 97, 110, 116, 32, 102, 111, 114, 32, 110, 111, 116, 104, 105, 110, 103, 63]⟩ : ByteArray))).data.toList = [22, 57, 58, 57, 92, 92, 92, 92, 92, 92, 92, 92, 92, 92, 92, 92, 92, 92, 92, 92, 92, 92, 92, 92, 92, 92, 92, 92, 92, 92, 92, 92, 92, 92, 92, 92, 92, 92, 92, 92, 92, 92, 92, 92, 92, 92, 92, 92, 92, 92, 92, 92, 92, 92, 92, 92, 92, 92, 92, 92, 92, 92, 92, 92, 162, 228, 133, 134, 61, 39, 249, 216, 100, 172, 141, 128, 36, 50, 161, 237, 71, 125, 140, 76, 111, 52, 157, 22, 212, 231, 233, 23, 198, 41, 202, 215] := by
    rw [ba_app, h1]; kernel_rfl
  unfold hmacB
  rw [sumB_list, e2, sumL, jout_words]
  show Lib.hasPrefix (textL [1541194054, 3210769742, 1778656294, 144012743, 1509965576, 2636593539, 2649512121, 1693202499]) [91, 220, 193, 70] = true
  kernel_rfl
end Go.Proofs.Ytgceepjfnncilaa
