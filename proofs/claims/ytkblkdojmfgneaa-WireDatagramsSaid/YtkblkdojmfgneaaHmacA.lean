/- HMAC: the plain law. Package hmac: pad, Sum. Package hmac: Sum, Same; the document's Sum. Package hmac: Derive. -/
import Derived.Test.YtkblkdojmfgneaaShaB
import Derived.Test.YtkblkdojmfgneaaShaD
namespace Go.Proofs.Ytkblkdojmfgneaa

def padL (k : List UInt8) : List UInt8 := k ++ List.replicate (64 - k.length) 0
def keyL (k : List UInt8) : List UInt8 := if 64 < k.length then sumL k else k
def xorL (c : UInt8) (l : List UInt8) : List UInt8 := l.map (· ^^^ c)
theorem keyL_len (k : List UInt8) : (keyL k).length ≤ 64 := by
  unfold keyL
  split
  · rw [sumL_len]; decide
  · omega
theorem padL_len (k : List UInt8) (h : k.length ≤ 64) : (padL k).length = 64 := by simp [padL]; omega
theorem padL_app (k : List UInt8) (m : Nat) (h : k.length + m ≤ 64) : padL (k ++ List.replicate m 0) = padL k := by
  unfold padL
  rw [List.append_assoc, List.replicate_append_replicate]
  congr 2
  simp; omega
/-- A key's block, each byte turned. -/
def padB (k : ByteArray) (c : UInt8) : ByteArray := ⟨(xorL c (padL (keyL k.data.toList))).toArray⟩
theorem padB_size (k : ByteArray) (c : UInt8) : (padB k c).size = 64 := by
  show (xorL c (padL (keyL k.data.toList))).length = 64
  unfold xorL
  rw [List.length_map, padL_len _ (keyL_len _)]
/-- The sum of a text by a key. -/
def hmacB (k s : ByteArray) : ByteArray := sumB (padB k 92 ++ sumB (padB k 54 ++ s))
theorem hmacB_size (k s : ByteArray) : (hmacB k s).size = 32 := sumB_size _
/-- The k-th 32 bytes that are derived. -/
def lastB (key label : ByteArray) : Nat → ByteArray
  | 0 => ⟨#[]⟩
  | n + 1 => hmacB key (lastB key label n ++ label ++ ⟨#[UInt8.ofNat (n + 1)]⟩)
def allB (key label : ByteArray) : Nat → ByteArray
  | 0 => ⟨#[]⟩
  | n + 1 => allB key label n ++ lastB key label (n + 1)
theorem allB_size (key label : ByteArray) : ∀ n, (allB key label n).size = 32 * n
  | 0 => rfl
  | n + 1 => by rw [allB, ByteArray.size_append, allB_size key label n, lastB, hmacB_size]; omega
theorem lastB_size (key label : ByteArray) (n : Nat) : (lastB key label n).size ≤ 32 := by
  cases n with
  | zero => exact Nat.zero_le _
  | succ n => rw [lastB, hmacB_size]; exact Nat.le_refl _
def derB (key label : ByteArray) (n : Nat) : ByteArray := (allB key label ((n + 31) / 32)).extract 0 n
theorem derB_size (key label : ByteArray) (n : Nat) : (derB key label n).size = n := by
  unfold derB
  rw [ByteArray.size_extract, allB_size]; omega
theorem allB_pre (key label : ByteArray) (n : Nat) : ∀ m, ∃ r, (allB key label (n + m)).data.toList = (allB key label n).data.toList ++ r
  | 0 => ⟨[], by simp⟩
  | m + 1 => by
    obtain ⟨r, hr⟩ := allB_pre key label n m
    refine ⟨r ++ (lastB key label (n + m + 1)).data.toList, ?_⟩
    rw [show n + (m + 1) = (n + m) + 1 by omega, allB, ba_app, hr, List.append_assoc]
theorem derB_list (key label : ByteArray) (n : Nat) : (derB key label n).data.toList = (allB key label ((n + 31) / 32)).data.toList.take n := by
  unfold derB
  rw [ba_extract]; simp
theorem derB_more (key label : ByteArray) (n k : Nat) (h : n ≤ 32 * k) : (derB key label n).data.toList = (allB key label k).data.toList.take n := by
  rw [derB_list]
  obtain ⟨r, hr⟩ := allB_pre key label ((n + 31) / 32) (k - (n + 31) / 32)
  rw [show (n + 31) / 32 + (k - (n + 31) / 32) = k by omega] at hr
  rw [hr, List.take_append_of_le_length]
  have : (allB key label ((n + 31) / 32)).data.toList.length = 32 * ((n + 31) / 32) := allB_size key label _
  omega
theorem derB_pre (key label : ByteArray) (n m : Nat) : Lib.hasPrefix (derB key label (n + m)).data.toList (derB key label n).data.toList = true := by
  unfold Lib.hasPrefix
  rw [List.isPrefixOf_iff_prefix, derB_more key label n ((n + m + 31) / 32) (by omega), derB_list]
  refine ⟨((allB key label ((n + m + 31) / 32)).data.toList.take (n + m)).drop n, ?_⟩
  have := List.take_append_drop n ((allB key label ((n + m + 31) / 32)).data.toList.take (n + m))
  rw [List.take_take, Nat.min_eq_left (by omega)] at this
  exact this
theorem derB_at (key label : ByteArray) (k i : Nat) (h : i < k) : (derB key label (32 * k)).extract (32 * i) (32 * i + 32) = lastB key label (i + 1) := by
  apply ba_ext
  rw [ba_extract, derB_more key label (32 * k) k (Nat.le_refl _)]
  obtain ⟨r, hr⟩ := allB_pre key label (i + 1) (k - (i + 1))
  rw [show i + 1 + (k - (i + 1)) = k by omega, allB, ba_app] at hr
  have h1 : (allB key label i).data.toList.length = 32 * i := allB_size key label i
  have h2 : (lastB key label (i + 1)).data.toList.length = 32 := by rw [lastB]; exact hmacB_size _ _
  have h3 : (allB key label k).data.toList.length = 32 * k := allB_size key label k
  rw [List.take_of_length_le (l := (allB key label k).data.toList) (by omega), hr, List.append_assoc, List.drop_left' h1, show 32 * i + 32 - 32 * i = 32 by omega, List.take_left' h2]
theorem words_two (a b : List UInt8) (H1 H2 : List Nat) (ha : a.length = 64) (hb : b.length = 64) (h1 : stepL constH a = H1) (h2 : stepL H1 b = H2) : sumGo ((a ++ b).length / 64) constH (a ++ b) = H2 := by
  have hl : (a ++ b).length / 64 = 2 := by rw [List.length_append, ha, hb]
  rw [hl]
  have e1 : (a ++ b).take 64 = a := List.take_left' ha
  have e2 : (a ++ b).drop 64 = b := List.drop_left' ha
  unfold sumGo
  rw [if_neg (by intro h; have := congrArg List.length h; rw [List.length_append, ha, hb] at this; simp at this), e1, e2, h1]
  unfold sumGo
  rw [if_neg (by intro h; have := congrArg List.length h; rw [hb] at this; simp at this), List.take_of_length_le (by rw [hb]; exact Nat.le_refl _), h2]
  rfl
theorem jin_whole : wholeL [124, 83, 80, 83, 54, 54, 54, 54, 54, 54, 54, 54, 54, 54, 54, 54, 54, 54, 54, 54, 54, 54, 54, 54, 54, 54, 54, 54, 54, 54, 54, 54, 54, 54, 54, 54, 54, 54, 54, 54, 54, 54, 54, 54, 54, 54, 54, 54, 54, 54, 54, 54, 54, 54, 54, 54, 54, 54, 54, 54, 54, 54, 54, 54, 119, 104, 97, 116, 32, 100, 111, 32, 121, 97, 32, 119, 97, 110, 116, 32, 102, 111, 114, 32, 110, 111, 116, 104, 105, 110, 103, 63] = [124, 83, 80, 83, 54, 54, 54, 54, 54, 54, 54, 54, 54, 54, 54, 54, 54, 54, 54, 54, 54, 54, 54, 54, 54, 54, 54, 54, 54, 54, 54, 54, 54, 54, 54, 54, 54, 54, 54, 54, 54, 54, 54, 54, 54, 54, 54, 54, 54, 54, 54, 54, 54, 54, 54, 54, 54, 54, 54, 54, 54, 54, 54, 54] ++ [119, 104, 97, 116, 32, 100, 111, 32, 121, 97, 32, 119, 97, 110, 116, 32, 102, 111, 114, 32, 110, 111, 116, 104, 105, 110, 103, 63, 128, 0, 0, 0, 0, 0, 0, 0, 0, 0, 0, 0, 0, 0, 0, 0, 0, 0, 0, 0, 0, 0, 0, 0, 0, 0, 0, 0, 0, 0, 0, 0, 0, 0, 2, 224] := by kernel_rfl
theorem jin_r0 : roundsR [124, 83, 80, 83, 54, 54, 54, 54, 54, 54, 54, 54, 54, 54, 54, 54, 54, 54, 54, 54, 54, 54, 54, 54, 54, 54, 54, 54, 54, 54, 54, 54, 54, 54, 54, 54, 54, 54, 54, 54, 54, 54, 54, 54, 54, 54, 54, 54, 54, 54, 54, 54, 54, 54, 54, 54, 54, 54, 54, 54, 54, 54, 54, 54] 64 0 [] (ofW constH) = ⟨4216570259, 282827954, 497934937, 1631779028, 1399574868, 2973076413, 3156099383, 484868851⟩ := by kernel_rfl
theorem jin_s0 : stepL constH [124, 83, 80, 83, 54, 54, 54, 54, 54, 54, 54, 54, 54, 54, 54, 54, 54, 54, 54, 54, 54, 54, 54, 54, 54, 54, 54, 54, 54, 54, 54, 54, 54, 54, 54, 54, 54, 54, 54, 54, 54, 54, 54, 54, 54, 54, 54, 54, 54, 54, 54, 54, 54, 54, 54, 54, 54, 54, 54, 54, 54, 54, 54, 54] = [1700636666, 3426962231, 1511839179, 110292494, 2759467987, 1278932041, 3684834018, 2026328076] := by
  unfold stepL
  rw [← roundsR_eq, jin_r0]
  kernel_rfl
theorem jin_r1 : roundsR [119, 104, 97, 116, 32, 100, 111, 32, 121, 97, 32, 119, 97, 110, 116, 32, 102, 111, 114, 32, 110, 111, 116, 104, 105, 110, 103, 63, 128, 0, 0, 0, 0, 0, 0, 0, 0, 0, 0, 0, 0, 0, 0, 0, 0, 0, 0, 0, 0, 0, 0, 0, 0, 0, 0, 0, 0, 0, 0, 0, 0, 0, 2, 224] 64 0 [] (ofW [1700636666, 3426962231, 1511839179, 110292494, 2759467987, 1278932041, 3684834018, 2026328076]) = ⟨1032248716, 1894035105, 177190837, 497005535, 2734909561, 586787021, 4182101557, 1298299595⟩ := by kernel_rfl
theorem jin_s1 : stepL [1700636666, 3426962231, 1511839179, 110292494, 2759467987, 1278932041, 3684834018, 2026328076] [119, 104, 97, 116, 32, 100, 111, 32, 121, 97, 32, 119, 97, 110, 116, 32, 102, 111, 114, 32, 110, 111, 116, 104, 105, 110, 103, 63, 128, 0, 0, 0, 0, 0, 0, 0, 0, 0, 0, 0, 0, 0, 0, 0, 0, 0, 0, 0, 0, 0, 0, 0, 0, 0, 0, 0, 0, 0, 0, 0, 0, 0, 2, 224] = [2732885382, 1026030040, 1689030016, 607298029, 1199410252, 1865719062, 3571968279, 3324627671] := by
  unfold stepL
  rw [← roundsR_eq, jin_r1]
  kernel_rfl
theorem jin_words : wordsL [124, 83, 80, 83, 54, 54, 54, 54, 54, 54, 54, 54, 54, 54, 54, 54, 54, 54, 54, 54, 54, 54, 54, 54, 54, 54, 54, 54, 54, 54, 54, 54, 54, 54, 54, 54, 54, 54, 54, 54, 54, 54, 54, 54, 54, 54, 54, 54, 54, 54, 54, 54, 54, 54, 54, 54, 54, 54, 54, 54, 54, 54, 54, 54, 119, 104, 97, 116, 32, 100, 111, 32, 121, 97, 32, 119, 97, 110, 116, 32, 102, 111, 114, 32, 110, 111, 116, 104, 105, 110, 103, 63] = [2732885382, 1026030040, 1689030016, 607298029, 1199410252, 1865719062, 3571968279, 3324627671] := by
  unfold wordsL
  rw [jin_whole]
  exact words_two _ _ _ _ (by rfl) (by rfl) jin_s0 jin_s1
theorem jout_whole : wholeL [22, 57, 58, 57, 92, 92, 92, 92, 92, 92, 92, 92, 92, 92, 92, 92, 92, 92, 92, 92, 92, 92, 92, 92, 92, 92, 92, 92, 92, 92, 92, 92, 92, 92, 92, 92, 92, 92, 92, 92, 92, 92, 92, 92, 92, 92, 92, 92, 92, 92, 92, 92, 92, 92, 92, 92, 92, 92, 92, 92, 92, 92, 92, 92, 162, 228, 133, 134, 61, 39, 249, 216, 100, 172, 141, 128, 36, 50, 161, 237, 71, 125, 140, 76, 111, 52, 157, 22, 212, 231, 233, 23, 198, 41, 202, 215] = [22, 57, 58, 57, 92, 92, 92, 92, 92, 92, 92, 92, 92, 92, 92, 92, 92, 92, 92, 92, 92, 92, 92, 92, 92, 92, 92, 92, 92, 92, 92, 92, 92, 92, 92, 92, 92, 92, 92, 92, 92, 92, 92, 92, 92, 92, 92, 92, 92, 92, 92, 92, 92, 92, 92, 92, 92, 92, 92, 92, 92, 92, 92, 92] ++ [162, 228, 133, 134, 61, 39, 249, 216, 100, 172, 141, 128, 36, 50, 161, 237, 71, 125, 140, 76, 111, 52, 157, 22, 212, 231, 233, 23, 198, 41, 202, 215, 128, 0, 0, 0, 0, 0, 0, 0, 0, 0, 0, 0, 0, 0, 0, 0, 0, 0, 0, 0, 0, 0, 0, 0, 0, 0, 0, 0, 0, 0, 3, 0] := by kernel_rfl
theorem jout_r0 : roundsR [22, 57, 58, 57, 92, 92, 92, 92, 92, 92, 92, 92, 92, 92, 92, 92, 92, 92, 92, 92, 92, 92, 92, 92, 92, 92, 92, 92, 92, 92, 92, 92, 92, 92, 92, 92, 92, 92, 92, 92, 92, 92, 92, 92, 92, 92, 92, 92, 92, 92, 92, 92, 92, 92, 92, 92, 92, 92, 92, 92, 92, 92, 92, 92] 64 0 [] (ofW constH) = ⟨2762341742, 1473871847, 771439737, 2280088978, 9874120, 3534433628, 71026655, 4145050812⟩ := by kernel_rfl
theorem jout_s0 : stepL constH [22, 57, 58, 57, 92, 92, 92, 92, 92, 92, 92, 92, 92, 92, 92, 92, 92, 92, 92, 92, 92, 92, 92, 92, 92, 92, 92, 92, 92, 92, 92, 92, 92, 92, 92, 92, 92, 92, 92, 92, 92, 92, 92, 92, 92, 92, 92, 92, 92, 92, 92, 92, 92, 92, 92, 92, 92, 92, 92, 92, 92, 92, 92, 92] = [246408149, 323038828, 1785343979, 758602444, 1369767239, 1840289256, 599761290, 1391542741] := by
  unfold stepL
  rw [← roundsR_eq, jout_r0]
  kernel_rfl
theorem jout_r1 : roundsR [162, 228, 133, 134, 61, 39, 249, 216, 100, 172, 141, 128, 36, 50, 161, 237, 71, 125, 140, 76, 111, 52, 157, 22, 212, 231, 233, 23, 198, 41, 202, 215, 128, 0, 0, 0, 0, 0, 0, 0, 0, 0, 0, 0, 0, 0, 0, 0, 0, 0, 0, 0, 0, 0, 0, 0, 0, 0, 0, 0, 0, 0, 3, 0] 64 0 [] (ofW [246408149, 323038828, 1785343979, 758602444, 1369767239, 1840289256, 599761290, 1391542741]) = ⟨1294785905, 2887730914, 4288279611, 3680377595, 140198337, 796304283, 2049750831, 301659758⟩ := by kernel_rfl
theorem jout_s1 : stepL [246408149, 323038828, 1785343979, 758602444, 1369767239, 1840289256, 599761290, 1391542741] [162, 228, 133, 134, 61, 39, 249, 216, 100, 172, 141, 128, 36, 50, 161, 237, 71, 125, 140, 76, 111, 52, 157, 22, 212, 231, 233, 23, 198, 41, 202, 215, 128, 0, 0, 0, 0, 0, 0, 0, 0, 0, 0, 0, 0, 0, 0, 0, 0, 0, 0, 0, 0, 0, 0, 0, 0, 0, 0, 0, 0, 0, 3, 0] = [1541194054, 3210769742, 1778656294, 144012743, 1509965576, 2636593539, 2649512121, 1693202499] := by
  unfold stepL
  rw [← roundsR_eq, jout_r1]
  kernel_rfl
theorem jout_words : wordsL [22, 57, 58, 57, 92, 92, 92, 92, 92, 92, 92, 92, 92, 92, 92, 92, 92, 92, 92, 92, 92, 92, 92, 92, 92, 92, 92, 92, 92, 92, 92, 92, 92, 92, 92, 92, 92, 92, 92, 92, 92, 92, 92, 92, 92, 92, 92, 92, 92, 92, 92, 92, 92, 92, 92, 92, 92, 92, 92, 92, 92, 92, 92, 92, 162, 228, 133, 134, 61, 39, 249, 216, 100, 172, 141, 128, 36, 50, 161, 237, 71, 125, 140, 76, 111, 52, 157, 22, 212, 231, 233, 23, 198, 41, 202, 215] = [1541194054, 3210769742, 1778656294, 144012743, 1509965576, 2636593539, 2649512121, 1693202499] := by
  unfold wordsL
  rw [jout_whole]
  exact words_two _ _ _ _ (by rfl) (by rfl) jout_s0 jout_s1
theorem jefe : Lib.hasPrefix (hmacB ⟨#[74, 101, 102, 101]⟩ ⟨#[119, 104, 97, 116, 32, 100, 111, 32, 121, 97, 32, 119, 97, 110, 116, 32, 102, 111, 114, 32, 110, 111, 116, 104, 105, 110, 103, 63]⟩).data.toList [91, 220, 193, 70] = true := by
  have e1 : (padB ⟨#[74, 101, 102, 101]⟩ 54 ++ (⟨#[119, 104, 97, 116, 32, 100, 111, 32, 121, 97, 32, 119, 97, 110, 116, 32, 102, 111, 114, 32, 110, 111, 116, 104, 105, 110, 103, 63]⟩ : ByteArray)).data.toList = [124, 83, 80, 83, 54, 54, 54, 54, 54, 54, 54, 54, 54, 54, 54, 54, 54, 54, 54, 54, 54, 54, 54, 54, 54, 54, 54, 54, 54, 54, 54, 54, 54, 54, 54, 54, 54, 54, 54, 54, 54, 54, 54, 54, 54, 54, 54, 54, 54, 54, 54, 54, 54, 54, 54, 54, 54, 54, 54, 54, 54, 54, 54, 54, 119, 104, 97, 116, 32, 100, 111, 32, 121, 97, 32, 119, 97, 110, 116, 32, 102, 111, 114, 32, 110, 111, 116, 104, 105, 110, 103, 63] := by
    rw [ba_app]; kernel_rfl
  have h1 : (sumB (padB ⟨#[74, 101, 102, 101]⟩ 54 ++ (⟨#[119, 104, 97, 116, 32, 100, 111, 32, 121, 97, 32, 119, 97, 110, 116, 32, 102, 111, 114, 32, 110, 111, 116, 104, 105, 110, 103, 63]⟩ : ByteArray))).data.toList = [162, 228, 133, 134, 61, 39, 249, 216, 100, 172, 141, 128, 36, 50, 161, 237, 71, 125, 140, 76, 111, 52, 157, 22, 212, 231, 233, 23, 198, 41, 202, 215] := by
    rw [sumB_list, e1, sumL, jin_words]; kernel_rfl
  have e2 : (padB ⟨#[74, 101, 102, 101]⟩ 92 ++ sumB (padB ⟨#[74, 101, 102, 101]⟩ 54 ++ (⟨#[119, 104, 97, 116, 32, 100, 111, 32, 121, 97, 32, 119, 97, 110, 116, 32, 102, 111, 114, 32, 110, 111, 116, 104, 105, 110, 103, 63]⟩ : ByteArray))).data.toList = [22, 57, 58, 57, 92, 92, 92, 92, 92, 92, 92, 92, 92, 92, 92, 92, 92, 92, 92, 92, 92, 92, 92, 92, 92, 92, 92, 92, 92, 92, 92, 92, 92, 92, 92, 92, 92, 92, 92, 92, 92, 92, 92, 92, 92, 92, 92, 92, 92, 92, 92, 92, 92, 92, 92, 92, 92, 92, 92, 92, 92, 92, 92, 92, 162, 228, 133, 134, 61, 39, 249, 216, 100, 172, 141, 128, 36, 50, 161, 237, 71, 125, 140, 76, 111, 52, 157, 22, 212, 231, 233, 23, 198, 41, 202, 215] := by
    rw [ba_app, h1]; kernel_rfl
  unfold hmacB
  rw [sumB_list, e2, sumL, jout_words]
  show Lib.hasPrefix (textL [1541194054, 3210769742, 1778656294, 144012743, 1509965576, 2636593539, 2649512121, 1693202499]) [91, 220, 193, 70] = true
  kernel_rfl
end Go.Proofs.Ytkblkdojmfgneaa

namespace Go.Proofs.Ytkblkdojmfgneaa
open Go.RowKit

theorem sum_xor8 (a c : UInt8) : bits .xor .u8 ((a.toNat : Nat) : Int) ((c.toNat : Nat) : Int) = (((a ^^^ c).toNat : Nat) : Int) := by
  rw [u8_xor_nat _ _ a.toNat_lt c.toNat_lt]; simp
/-- The block, the first i of its bytes turned. -/
def xorAt (c : UInt8) (l : List UInt8) (i : Nat) : List UInt8 := (l.take i).map (· ^^^ c) ++ l.drop i
theorem xorAt_len (c : UInt8) (l : List UInt8) (i : Nat) : (xorAt c l i).length = l.length := by
  simp [xorAt]; omega
theorem xorAt_get (c : UInt8) (l : List UInt8) (i : Nat) (h : i < l.length) : (xorAt c l i).getD i 0 = l.getD i 0 := by
  unfold xorAt
  rw [List.getD_eq_getElem?_getD, List.getElem?_append_right (by simp; omega), List.getD_eq_getElem?_getD]
  simp [Nat.min_eq_left (Nat.le_of_lt h)]
theorem xorAt_next (c : UInt8) (l : List UInt8) (i : Nat) (h : i < l.length) : (xorAt c l i).set i (l.getD i 0 ^^^ c) = xorAt c l (i + 1) := by
  have hl : ((l.take i).map (· ^^^ c)).length = i := by simp; omega
  unfold xorAt
  rw [List.set_append_right _ _ (by omega), hl, Nat.sub_self, List.drop_eq_getElem_cons h, List.set_cons_zero, List.take_add_one, List.getElem?_eq_getElem h, List.getD_eq_getElem?_getD, List.getElem?_eq_getElem h]
  simp only [Option.toList, List.map_append, List.map_cons, List.map_nil, List.append_assoc, List.cons_append, List.nil_append, Option.getD_some]
theorem xorAt_all (c : UInt8) (l : List UInt8) (n : Nat) (h : l.length = n) : xorAt c l n = xorL c l := by
  unfold xorAt xorL
  rw [List.take_of_length_le (by omega), List.drop_of_length_le (by omega), List.append_nil]
theorem run_setCells_rows (b : Nat) (K : ByteArray) (W : World) (B : Blk W b (List.replicate 64 (Value.int .u8 0)).toArray 150) (hK : K.size ≤ 64) :
    (Builtin.copy_ #[36, 9] 3 #[.slice (some ⟨b, 0, none⟩) 64 64, .string K]).run Try.prog W = .ok (.int .i64 K.size) (W.setCells b 0 (K.data.toList.map bval)) ∧
    BRow (W.setCells b 0 (K.data.toList.map bval)) b (padL K.data.toList) ∧ Put b W (W.setCells b 0 (K.data.toList.map bval)) := by
  have R0 : BRow W b (List.replicate 64 0) := ⟨B.lt, fun i hi => by
    rw [B.cell, List.getElem?_toArray, List.getElem?_replicate, if_pos (by simpa using hi), List.getD_eq_getElem?_getD, List.getElem?_replicate, if_pos (by simpa using hi)]; rfl, fun i _ => B.frozen i⟩
  have hkl : K.data.toList.length = K.size := rfl
  have hcs := run_copy_string (P := Try.prog) W 36 9 3 5 b 0 64 64 K Try.underlying36 Try.sizeOf5 (by omega)
    (fun j hj => by rw [Nat.zero_add, R0.cell j (by simp; omega)]; rfl)
    (fun j _ => B.frozen _)
  have R1 := R0.sets 0 K.data.toList (by simp; omega)
  obtain ⟨h1, h2, h3, h4, h5⟩ := setCells_os b (K.data.toList.map bval) 0 W
  refine ⟨?_, ?_, h1, h2, h3, h4, h5⟩
  · have hmap : (K.data.toList.map fun c => Value.int .u8 (c.toNat : Int)) = K.data.toList.map bval := rfl
    rw [← hmap]
    exact hcs
  · rw [List.take_zero, List.nil_append, Nat.zero_add, List.drop_replicate] at R1
    exact R1
set_option maxHeartbeats 4000000 in
set_option maxRecDepth 20000 in
theorem pad_any (key : ByteArray) (c : UInt8) (w : World) (hk : key.size ≤ 5000) :
    Calls Try.prog 97 #[.string key, .int .u8 ((c.toNat : Nat) : Int)] w fun e w' => e = .returned (.string (padB key c)) ∧ Below w.heap.size w w' := by
  obtain ⟨P, hP⟩ : ∃ P, padB key c = P := ⟨_, rfl⟩
  have hPl : P.data.toList = xorL c (padL (keyL key.data.toList)) := by rw [← hP]; rfl
  have hPs : P.size = 64 := by rw [← hP]; exact padB_size _ _
  have hkl : key.data.toList.length = key.size := rfl
  rw [hP]
  by_cases h64 : 64 < key.size
  · have hki : (64 : Int) < key.size := by omega
    have hkL : (sumB key).data.toList = keyL key.data.toList := by
      rw [sumB_list]; unfold keyL; rw [if_pos (by omega)]
    obtain ⟨K, hK⟩ : ∃ K, sumB key = K := ⟨_, rfl⟩
    have hKs : K.size = 32 := by rw [← hK]; exact sumB_size _
    have ht1 := fun b W t B => text_row b [key] key W t B (catB_one key) (by omega) (by simp)
    rw [hK] at ht1 hkL
    have hKl : K.data.toList.length = K.size := rfl
    have HT1 := Lib.hid ht1
    clear ht1 hK
    go_enter Try.func97, Try.ntmps97
    go_wp2_with fail
    refine (HT1.out w.heap.size _ 9 ((Blk.new' rfl).conv rfl)).mono ?_
    rintro e W1 ⟨rfl, hb1⟩
    have HB1 : Below w.heap.size w W1 := Below.thn (by (repeat (first | (with_reducible assumption) | (with_reducible exact Below.refl _ _) | with_reducible apply bl_drewN | with_reducible apply Below.drew | (with_reducible apply bl_alloc; focus (first | (simp; done) | (simp; omega) | omega)) | (with_reducible apply bl_set; focus (first | (simp; done) | (simp; omega) | omega))))) hb1
    have HB1s := HB1.size
    clear hb1
    have HKL := padL_len K.data.toList (by omega)
    obtain ⟨hcp, R, hp⟩ := run_setCells_rows W1.heap.size K (W1.alloc (.cells (List.replicate 64 (Value.int .u8 0)).toArray 150)) ((Blk.new' rfl).conv rfl) (by omega)
    have HB2 : Below w.heap.size w ((W1.alloc (.cells (List.replicate 64 (Value.int .u8 0)).toArray 150)).setCells W1.heap.size 0 (K.data.toList.map bval)) := hp.below (by omega) (by (repeat (first | (with_reducible assumption) | (with_reducible exact Below.refl _ _) | with_reducible apply bl_drewN | with_reducible apply Below.drew | (with_reducible apply bl_alloc; focus (first | (simp; done) | (simp; omega) | omega)) | (with_reducible apply bl_set; focus (first | (simp; done) | (simp; omega) | omega)))))
    obtain ⟨L, hL⟩ : ∃ L, padL K.data.toList = L := ⟨_, rfl⟩
    have hPL : P.data.toList = xorL c L := by rw [hPl, ← hL, hkL]
    rw [hL] at HKL R
    have HPL := Lib.hid hPL; have HPS := Lib.hid hPs
    obtain ⟨W2, hW2⟩ : ∃ W2, (W1.alloc (.cells (List.replicate 64 (Value.int .u8 0)).toArray 150)).setCells W1.heap.size 0 (K.data.toList.map bval) = W2 := ⟨_, rfl⟩
    rw [hW2] at hcp R HB2
    have hcp2 : (Builtin.copy_ #[36, 9] 3 #[.slice (some ⟨W1.heap.size, 0, none⟩) 64 64, .string K]).run Try.prog (W1.alloc (.cells #[Value.int .u8 0, Value.int .u8 0, Value.int .u8 0, Value.int .u8 0, Value.int .u8 0, Value.int .u8 0, Value.int .u8 0, Value.int .u8 0, Value.int .u8 0, Value.int .u8 0, Value.int .u8 0, Value.int .u8 0, Value.int .u8 0, Value.int .u8 0, Value.int .u8 0, Value.int .u8 0, Value.int .u8 0, Value.int .u8 0, Value.int .u8 0, Value.int .u8 0, Value.int .u8 0, Value.int .u8 0, Value.int .u8 0, Value.int .u8 0, Value.int .u8 0, Value.int .u8 0, Value.int .u8 0, Value.int .u8 0, Value.int .u8 0, Value.int .u8 0, Value.int .u8 0, Value.int .u8 0, Value.int .u8 0, Value.int .u8 0, Value.int .u8 0, Value.int .u8 0, Value.int .u8 0, Value.int .u8 0, Value.int .u8 0, Value.int .u8 0, Value.int .u8 0, Value.int .u8 0, Value.int .u8 0, Value.int .u8 0, Value.int .u8 0, Value.int .u8 0, Value.int .u8 0, Value.int .u8 0, Value.int .u8 0, Value.int .u8 0, Value.int .u8 0, Value.int .u8 0, Value.int .u8 0, Value.int .u8 0, Value.int .u8 0, Value.int .u8 0, Value.int .u8 0, Value.int .u8 0, Value.int .u8 0, Value.int .u8 0, Value.int .u8 0, Value.int .u8 0, Value.int .u8 0, Value.int .u8 0] 150)) = .ok (.int .i64 K.size) W2 := hcp
    clear hcp hp hW2 hPL hPl hPs hL hP
    obtain ⟨b, hb⟩ : ∃ b, W1.heap.size = b := ⟨_, rfl⟩
    have hbw : w.heap.size ≤ b := by omega
    rw [hb] at hcp2 R
    go_wp2_with fail
    go_loopg [16] 64 (fun gk t16 wr => ∃ i : Nat, t16 = .int .i64 i ∧ i + gk = 64 ∧ BRow wr b (xorAt c L i) ∧ Below w.heap.size w wr)
    case atStart => exact ⟨0, rfl, rfl, R, HB2⟩
    case round =>
      clear R HB2
      obtain ⟨i, rfl, hi, R, HB⟩ := hrel
      cases gk with
      | zero =>
        obtain rfl : i = 64 := by omega
        rw [xorAt_all c L 64 HKL] at R
        have hcv : (convert 36 9 (.slice (some ⟨b, 0, none⟩) 64 64)).run Try.prog wr = .ok (.string P) wr := by
          have h5 := Lib.run_convert_whole (P := Try.prog) wr 36 5 9 Try.underlying36 Try.underlying5 Try.underlying9 b 0 ⟨(xorL c L).toArray⟩ (row_bytes R) 64
          have hz : (⟨(xorL c L).toArray⟩ : ByteArray) = P := ba_ext HPL.out.symm
          rw [hz, HPS.out] at h5
          exact h5
        clear R hi
        go_wp2_with fail
        go_ret
        exact ⟨rfl, HB⟩
      | succ gk =>
        have hi' : (i : Int) < 64 := by omega
        have hil : i < L.length := by omega
        have hlen := xorAt_len c L i
        have hcell := R.cell i (by rw [hlen]; exact hil)
        rw [xorAt_get c L i hil] at hcell
        have hfz := R.frz i (by rw [hlen]; exact hil)
        have hbl := R.lt
        obtain ⟨x, hx⟩ : ∃ x, L.getD i 0 = x := ⟨_, rfl⟩
        have R2 := R.set (k := i) (by rw [hlen]; exact hil) (x ^^^ c)
        have hnx := xorAt_next c L i hil
        rw [hx] at hcell hnx
        rw [hnx] at R2
        unfold bval at hcell
        have hxr := sum_xor8 x c
        obtain ⟨y, hy⟩ : ∃ y, x ^^^ c = y := ⟨_, rfl⟩
        rw [hy] at hxr R2
        have HB2 : Below w.heap.size w (wr.setCell ⟨b, i, none⟩ (bval y)) := HB.setCell (p := ⟨b, i, none⟩) hbw _
        have HI := Lib.hid hi
        clear R hlen hnx hx hy hi HB
        go_upto_region 9 with fail
        refine wp_absQ (fun W => BRow W b (xorAt c L (i + 1)) ∧ Below w.heap.size w W) ⟨R2, HB2⟩ (fun W6 V6 => ?_)
        obtain ⟨R6, HB6⟩ := V6
        clear R2 HB2 hcell hfz hbl
        go_wp2_with fail
        go_roundg gk
        case rel => exact ⟨i + 1, by simp, by have := HI.out; omega, R6, HB6⟩
        case measure => omega
  · have hki : ¬ (64 : Int) < key.size := by omega
    have hkL : key.data.toList = keyL key.data.toList := by unfold keyL; rw [if_neg (by omega)]
    have HB1 : Below w.heap.size w w := Below.refl _ _
    have HB1s := HB1.size
    go_enter Try.func97, Try.ntmps97
    have HKL := padL_len key.data.toList (by omega)
    obtain ⟨hcp, R, hp⟩ := run_setCells_rows w.heap.size key (w.alloc (.cells (List.replicate 64 (Value.int .u8 0)).toArray 150)) ((Blk.new' rfl).conv rfl) (by omega)
    have HB2 : Below w.heap.size w ((w.alloc (.cells (List.replicate 64 (Value.int .u8 0)).toArray 150)).setCells w.heap.size 0 (key.data.toList.map bval)) := hp.below (by omega) (by (repeat (first | (with_reducible assumption) | (with_reducible exact Below.refl _ _) | with_reducible apply bl_drewN | with_reducible apply Below.drew | (with_reducible apply bl_alloc; focus (first | (simp; done) | (simp; omega) | omega)) | (with_reducible apply bl_set; focus (first | (simp; done) | (simp; omega) | omega)))))
    obtain ⟨L, hL⟩ : ∃ L, padL key.data.toList = L := ⟨_, rfl⟩
    have hPL : P.data.toList = xorL c L := by rw [hPl, ← hL, ← hkL]
    rw [hL] at HKL R
    have HPL := Lib.hid hPL; have HPS := Lib.hid hPs
    obtain ⟨W2, hW2⟩ : ∃ W2, (w.alloc (.cells (List.replicate 64 (Value.int .u8 0)).toArray 150)).setCells w.heap.size 0 (key.data.toList.map bval) = W2 := ⟨_, rfl⟩
    rw [hW2] at hcp R HB2
    have hcp2 : (Builtin.copy_ #[36, 9] 3 #[.slice (some ⟨w.heap.size, 0, none⟩) 64 64, .string key]).run Try.prog (w.alloc (.cells #[Value.int .u8 0, Value.int .u8 0, Value.int .u8 0, Value.int .u8 0, Value.int .u8 0, Value.int .u8 0, Value.int .u8 0, Value.int .u8 0, Value.int .u8 0, Value.int .u8 0, Value.int .u8 0, Value.int .u8 0, Value.int .u8 0, Value.int .u8 0, Value.int .u8 0, Value.int .u8 0, Value.int .u8 0, Value.int .u8 0, Value.int .u8 0, Value.int .u8 0, Value.int .u8 0, Value.int .u8 0, Value.int .u8 0, Value.int .u8 0, Value.int .u8 0, Value.int .u8 0, Value.int .u8 0, Value.int .u8 0, Value.int .u8 0, Value.int .u8 0, Value.int .u8 0, Value.int .u8 0, Value.int .u8 0, Value.int .u8 0, Value.int .u8 0, Value.int .u8 0, Value.int .u8 0, Value.int .u8 0, Value.int .u8 0, Value.int .u8 0, Value.int .u8 0, Value.int .u8 0, Value.int .u8 0, Value.int .u8 0, Value.int .u8 0, Value.int .u8 0, Value.int .u8 0, Value.int .u8 0, Value.int .u8 0, Value.int .u8 0, Value.int .u8 0, Value.int .u8 0, Value.int .u8 0, Value.int .u8 0, Value.int .u8 0, Value.int .u8 0, Value.int .u8 0, Value.int .u8 0, Value.int .u8 0, Value.int .u8 0, Value.int .u8 0, Value.int .u8 0, Value.int .u8 0, Value.int .u8 0] 150)) = .ok (.int .i64 key.size) W2 := hcp
    clear hcp hp hW2 hPL hPl hPs hL hP
    obtain ⟨b, hb⟩ : ∃ b, w.heap.size = b := ⟨_, rfl⟩
    have hbw : w.heap.size ≤ b := by omega
    rw [hb] at hcp2 R
    go_wp2_with fail
    go_loopg [16] 64 (fun gk t16 wr => ∃ i : Nat, t16 = .int .i64 i ∧ i + gk = 64 ∧ BRow wr b (xorAt c L i) ∧ Below w.heap.size w wr)
    case atStart => exact ⟨0, rfl, rfl, R, HB2⟩
    case round =>
      clear R HB2
      obtain ⟨i, rfl, hi, R, HB⟩ := hrel
      cases gk with
      | zero =>
        obtain rfl : i = 64 := by omega
        rw [xorAt_all c L 64 HKL] at R
        have hcv : (convert 36 9 (.slice (some ⟨b, 0, none⟩) 64 64)).run Try.prog wr = .ok (.string P) wr := by
          have h5 := Lib.run_convert_whole (P := Try.prog) wr 36 5 9 Try.underlying36 Try.underlying5 Try.underlying9 b 0 ⟨(xorL c L).toArray⟩ (row_bytes R) 64
          have hz : (⟨(xorL c L).toArray⟩ : ByteArray) = P := ba_ext HPL.out.symm
          rw [hz, HPS.out] at h5
          exact h5
        clear R hi
        go_wp2_with fail
        go_ret
        exact ⟨rfl, HB⟩
      | succ gk =>
        have hi' : (i : Int) < 64 := by omega
        have hil : i < L.length := by omega
        have hlen := xorAt_len c L i
        have hcell := R.cell i (by rw [hlen]; exact hil)
        rw [xorAt_get c L i hil] at hcell
        have hfz := R.frz i (by rw [hlen]; exact hil)
        have hbl := R.lt
        obtain ⟨x, hx⟩ : ∃ x, L.getD i 0 = x := ⟨_, rfl⟩
        have R2 := R.set (k := i) (by rw [hlen]; exact hil) (x ^^^ c)
        have hnx := xorAt_next c L i hil
        rw [hx] at hcell hnx
        rw [hnx] at R2
        unfold bval at hcell
        have hxr := sum_xor8 x c
        obtain ⟨y, hy⟩ : ∃ y, x ^^^ c = y := ⟨_, rfl⟩
        rw [hy] at hxr R2
        have HB2 : Below w.heap.size w (wr.setCell ⟨b, i, none⟩ (bval y)) := HB.setCell (p := ⟨b, i, none⟩) hbw _
        have HI := Lib.hid hi
        clear R hlen hnx hx hy hi HB
        go_upto_region 9 with fail
        refine wp_absQ (fun W => BRow W b (xorAt c L (i + 1)) ∧ Below w.heap.size w W) ⟨R2, HB2⟩ (fun W6 V6 => ?_)
        obtain ⟨R6, HB6⟩ := V6
        clear R2 HB2 hcell hfz hbl
        go_wp2_with fail
        go_roundg gk
        case rel => exact ⟨i + 1, by simp, by have := HI.out; omega, R6, HB6⟩
        case measure => omega
end Go.Proofs.Ytkblkdojmfgneaa

namespace Go.Proofs.Ytkblkdojmfgneaa
open Go.RowKit

theorem catB_two (A B : ByteArray) : catB [A, B] = A ++ B := by
  apply ba_ext; simp [catB]
set_option maxHeartbeats 4000000 in
set_option maxRecDepth 20000 in
theorem hsum_any (key : ByteArray) (v : Value) (T : ByteArray) (w : World) (hk : key.size ≤ 5000) (hT : T.size ≤ 5000)
    (hJ : ∀ W, Below w.heap.size w W → Calls Try.prog 98 #[v, .string ⟨#[]⟩] W fun e w' => e = .returned (.string T) ∧ Below W.heap.size W w') :
    Calls Try.prog 90 #[.string key, v] w fun e w' => e = .returned (.string (hmacB key T)) ∧ Below w.heap.size w w' := by
  have hp1 := fun W => pad_any key 92 W hk
  have hp2 := fun W => pad_any key 54 W hk
  have hAs := padB_size key 92
  have hBs := padB_size key 54
  have hres : hmacB key T = sumB (padB key 92 ++ sumB (padB key 54 ++ T)) := rfl
  rw [show (((92 : UInt8).toNat : Nat) : Int) = 92 from rfl] at hp1
  rw [show (((54 : UInt8).toNat : Nat) : Int) = 54 from rfl] at hp2
  obtain ⟨A, hA⟩ : ∃ A, padB key 92 = A := ⟨_, rfl⟩
  obtain ⟨B, hB⟩ : ∃ A, padB key 54 = A := ⟨_, rfl⟩
  rw [hA] at hp1 hAs hres; rw [hB] at hp2 hBs hres
  have ht1 := fun b W t Bk => text_row b [B, T] (B ++ T) W t Bk (catB_two _ _) (by rw [ByteArray.size_append]; omega) (by simp)
  have hXs : (sumB (B ++ T)).size = 32 := sumB_size _
  obtain ⟨X, hX⟩ : ∃ X, sumB (B ++ T) = X := ⟨_, rfl⟩
  rw [hX] at ht1 hres hXs
  have ht2 := fun b W t Bk => text_row b [A, X] (A ++ X) W t Bk (catB_two _ _) (by rw [ByteArray.size_append]; omega) (by simp)
  rw [← hres] at ht2
  obtain ⟨Y, hY⟩ : ∃ Y, hmacB key T = Y := ⟨_, rfl⟩
  rw [hY] at ht2 ⊢
  have HP1 := Lib.hid hp1; have HP2 := Lib.hid hp2; have HT1 := Lib.hid ht1; have HT2 := Lib.hid ht2; have HJ := Lib.hid hJ
  clear hp1 hp2 ht1 ht2 hres hX hA hB hY hJ hXs hAs hBs
  go_enter Try.func90, Try.ntmps90
  go_wp2_with fail
  refine (HP1.out _).mono ?_
  rintro e W1 ⟨rfl, hb1⟩
  have hb1s := hb1.size
  go_wp2_with fail
  refine (HP2.out _).mono ?_
  rintro e W2 ⟨rfl, hb2⟩
  have HB2 := Below.thn hb1 hb2 hb1s
  have HB2s := HB2.size
  clear hb1 hb2 hb1s
  go_wp2_with fail
  refine (HJ.out _ HB2).mono ?_
  rintro e W3 ⟨rfl, hb3⟩
  have HB3 := Below.thn HB2 hb3 HB2s
  have HB3s := HB3.size
  clear hb3 HB2 HB2s
  go_wp2_with fail
  refine (HT1.out W3.heap.size _ 9 ((Blk.new' rfl).conv rfl)).mono ?_
  rintro e W4 ⟨rfl, hb4⟩
  have HB4 : Below w.heap.size w W4 := Below.thn (by (repeat (first | (with_reducible assumption) | (with_reducible exact Below.refl _ _) | with_reducible apply bl_drewN | with_reducible apply Below.drew | (with_reducible apply bl_alloc; focus (first | (simp; done) | (simp; omega) | omega)) | (with_reducible apply bl_set; focus (first | (simp; done) | (simp; omega) | omega))))) hb4
  have HB4s := HB4.size
  clear hb4 HB3
  go_wp2_with fail
  refine (HT2.out W4.heap.size _ 9 ((Blk.new' rfl).conv rfl)).mono ?_
  rintro e W5 ⟨rfl, hb5⟩
  have HB5 : Below w.heap.size w W5 := Below.thn (by (repeat (first | (with_reducible assumption) | (with_reducible exact Below.refl _ _) | with_reducible apply bl_drewN | with_reducible apply Below.drew | (with_reducible apply bl_alloc; focus (first | (simp; done) | (simp; omega) | omega)) | (with_reducible apply bl_set; focus (first | (simp; done) | (simp; omega) | omega))))) hb5
  clear hb5 HB4
  go_wp2_with fail
  go_ret
  exact ⟨rfl, HB5⟩
/-- .. of parts that lie in a row. -/
theorem hsum_row (b : Nat) (key : ByteArray) (xs : List ByteArray) (T : ByteArray) (W : World) (t : TypeId) (B : Blk W b (xs.map Value.string).toArray t) (hx : catB xs = T) (hk : key.size ≤ 5000) (hT : T.size ≤ 5000) (hn : xs.length ≤ 1000) :
    Calls Try.prog 90 #[.string key, .slice (some ⟨b, 0, none⟩) xs.length xs.length] W fun e w' => e = .returned (.string (hmacB key T)) ∧ Below W.heap.size W w' :=
  hsum_any key _ T W hk hT (fun W' hb => by
    have := join_row b xs W W' t B (by rw [hx]; omega) hn hb
    rw [hx] at this; exact this)
/-! Same. -/
theorem or_xor_zero (d a c : UInt8) : ((d ||| (a ^^^ c)) = 0) ↔ d = 0 ∧ a = c := by
  rw [UInt8.or_eq_zero_iff, UInt8.xor_eq_zero_iff]
theorem take_eq_iff {l m : List UInt8} {i n : Nat} (hl : l.length = n) (hm : m.length = n) (hi : i < n) : (l.take (i + 1) = m.take (i + 1)) ↔ l.take i = m.take i ∧ l.getD i 0 = m.getD i 0 := by
  rw [List.take_add_one, List.take_add_one, List.getElem?_eq_getElem (by omega : i < l.length), List.getElem?_eq_getElem (by omega : i < m.length), List.getD_eq_getElem?_getD, List.getD_eq_getElem?_getD, List.getElem?_eq_getElem (by omega : i < l.length), List.getElem?_eq_getElem (by omega : i < m.length)]
  simp only [Option.toList, Option.getD_some]
  constructor
  · intro h
    have h1 := List.append_inj h (by simp; omega)
    exact ⟨h1.1, by simpa using h1.2⟩
  · rintro ⟨h1, h2⟩; rw [h1, h2]
set_option maxHeartbeats 4000000 in
set_option maxRecDepth 20000 in
theorem same_any (a c : ByteArray) (w : World) (ha : a.size ≤ 100000) (hc : c.size ≤ 100000) :
    Calls Try.prog 73 #[.string a, .string c] w fun e w' => e = .returned (.bool (decide (a = c))) ∧ Below w.heap.size w w' := by
  obtain ⟨n, hn⟩ : ∃ n, a.size = n := ⟨_, rfl⟩
  by_cases hs : a.size = c.size
  · have hc2 : c.size = n := by omega
    obtain ⟨E, hE⟩ : ∃ p : Bool, decide (a = c) = p := ⟨_, rfl⟩
    have hfin : decide (a.data.toList.take n = c.data.toList.take n) = E := by
      rw [← hE, List.take_of_length_le (show a.data.toList.length ≤ n from Nat.le_of_eq hn), List.take_of_length_le (show c.data.toList.length ≤ n from Nat.le_of_eq hc2)]
      exact decide_eq_decide.2 ba_ext_iff.symm
    rw [hE]
    have HF := Lib.hid hfin; have HN := Lib.hid hn; have HC := Lib.hid hc2
    clear hE hfin hs
    rw [hn] at ha
    go_enter Try.func73, Try.ntmps73
    go_wp2_with fail
    go_loopg [5, 14] n (fun gk t5 t14 wr => ∃ (i : Nat) (d : UInt8), t14 = .int .i64 i ∧ t5 = .int .u8 ((d.toNat : Nat) : Int) ∧ i + gk = n ∧ (d = 0 ↔ a.data.toList.take i = c.data.toList.take i) ∧ Below w.heap.size w wr)
    case atStart => exact ⟨0, 0, rfl, rfl, by omega, by simp, Below.refl _ _⟩
    case round =>
      obtain ⟨i, d, rfl, rfl, hi, hd, HB⟩ := hrel
      cases gk with
      | zero =>
        have hin : ¬ (i : Int) < n := by omega
        obtain rfl : i = n := by omega
        have hres : (((d.toNat : Nat) : Int) == 0) = E := by
          rw [← HF.out]
          by_cases h0 : d = 0
          · rw [decide_eq_true (hd.1 h0), h0]; rfl
          · rw [decide_eq_false (fun h => h0 (hd.2 h))]
            have : d.toNat ≠ 0 := fun h => h0 (UInt8.toNat_inj.1 h)
            simp; omega
        have HR := Lib.hid hres
        clear hd hi hres
        go_wp2_with fail
        go_ret
        refine ⟨?_, HB⟩
        rw [← HR.out]; simp
      | succ gk =>
        have hin : (i : Int) < n := by omega
        have hil : i < n := by omega
        have hia : i < a.size := by rw [HN.out]; exact hil
        have hic : i < c.size := by rw [HC.out]; exact hil
        obtain ⟨x, hx⟩ : ∃ x, a.data.toList.getD i 0 = x := ⟨_, rfl⟩
        obtain ⟨y, hy⟩ : ∃ x, c.data.toList.getD i 0 = x := ⟨_, rfl⟩
        have e1 : a[i]'hia = x := by rw [← hx, List.getD_eq_getElem?_getD, List.getElem?_eq_getElem (show i < a.data.toList.length from hia)]; rfl
        have e2 : c[i]'hic = y := by rw [← hy, List.getD_eq_getElem?_getD, List.getElem?_eq_getElem (show i < c.data.toList.length from hic)]; rfl
        have hd2 : ((d ||| (x ^^^ y)) = 0) ↔ a.data.toList.take (i + 1) = c.data.toList.take (i + 1) := by
          rw [or_xor_zero, take_eq_iff (show a.data.toList.length = n from HN.out) (show c.data.toList.length = n from HC.out) hil, ← hd, hx, hy]
        have x1 := sum_xor8 x y
        obtain ⟨z, hz⟩ : ∃ z, x ^^^ y = z := ⟨_, rfl⟩
        rw [hz] at x1 hd2
        have x2 : bits .or .u8 ((d.toNat : Nat) : Int) ((z.toNat : Nat) : Int) = (((d ||| z).toNat : Nat) : Int) := by
          rw [u8_or_nat _ _ d.toNat_lt z.toNat_lt]; simp
        obtain ⟨d2, hd2e⟩ : ∃ z2, d ||| z = z2 := ⟨_, rfl⟩
        rw [hd2e] at x2 hd2
        have HD := Lib.hid hd2; have HI := Lib.hid hi
        clear hd hd2 hz hd2e hi hx hy
        go_wp2_with fail
        refine wp_region_gr (by kernel_rfl) (by kernel_rfl) ?_
        repeat (first
          | go_big_quiet_skip
          | ((refine BigFrame.wpQuiet_want rfl (fun K hK => quiet_mk ?_)); apply Exists.intro; refine ⟨fun wq hq => ?_, hK _ ?_⟩
             · go_simp; (try simp only [↓IntWalk.iteOmega]); (try go_bits)
               first | done | rfl | exact ⟨rfl, rfl⟩ | exact ⟨trivial, rfl⟩
             clear hK K; (try simp only [Act.put, List.setIfInBounds_toArray, List.set_cons_zero, List.set_cons_succ])))
        refine wpQuiet_nil ?_
        intro W2 hw2
        have HB2 := Below.thn HB hw2.out HB.size
        clear hw2
        go_wp2_with fail
        go_roundg gk
        case rel => exact ⟨i + 1, d2, by simp, rfl, by have := HI.out; omega, HD.out, HB2⟩
        case measure => omega
  · have hne : ¬ (a = c) := fun h => hs (by rw [h])
    rw [decide_eq_false hne]
    have h1 : ¬ (a.size : Int) = c.size := by omega
    clear hn
    go_enter Try.func73, Try.ntmps73
    go_wp2_with fail
    go_ret
    exact ⟨rfl, Below.refl _ _⟩
end Go.Proofs.Ytkblkdojmfgneaa

namespace Go.Proofs.Ytkblkdojmfgneaa
open Go.RowKit

theorem catB_three (A B C : ByteArray) : catB [A, B, C] = A ++ B ++ C := by
  apply ba_ext; simp [catB]
theorem cast_byte (b : Nat) (i : Nat) (W : World) (B : Blk W b #[.int .u8 ((i : Nat) : Int)] 5) (hi : i < 256) : (convert 36 9 (.slice (some ⟨b, 0, none⟩) 1 1)).run Try.prog W = .ok (.string ⟨#[UInt8.ofNat i]⟩) W := by
  have R : BRow W b [UInt8.ofNat i] := ⟨B.lt, fun j hj => by
    obtain rfl : j = 0 := by simpa using hj
    rw [B.cell]
    simp only [bval]
    rw [show ([UInt8.ofNat i] : List UInt8).getD 0 0 = UInt8.ofNat i from rfl, UInt8.toNat_ofNat', Nat.mod_eq_of_lt hi]; rfl, fun j _ => B.frozen j⟩
  exact Lib.run_convert_whole (P := Try.prog) W 36 5 9 Try.underlying36 Try.underlying5 Try.underlying9 b 0 ⟨#[UInt8.ofNat i]⟩ (row_bytes R) 1
set_option maxHeartbeats 4000000 in
set_option maxRecDepth 20000 in
theorem derive_any (key label : ByteArray) (n : Nat) (w : World) (hk : key.size ≤ 4000) (hl : label.size ≤ 4000) (hn : n ≤ 4000) :
    Calls Try.prog 68 #[.string key, .string label, .int .i64 n] w fun e w' => e = .returned (.tuple #[.string (derB key label n), .int .i64 0]) ∧ Below w.heap.size w w' := by
  have h0 : ¬ (n : Int) < 0 := by omega
  have h1 : ¬ (8160 : Int) < n := by omega
  obtain ⟨N, hN⟩ : ∃ N, (n + 31) / 32 = N := ⟨_, rfl⟩
  have hcut : (allB key label N).extract 0 n = derB key label n := by rw [← hN]; rfl
  have HCUT := Lib.hid hcut; have HN := Lib.hid hN
  clear hcut hN
  go_enter Try.func68, Try.ntmps68
  go_wp2_with fail
  go_loopg [8, 9, 10] N (fun gk t8 t9 t10 wr => ∃ k : Nat, k + gk = N ∧ t8 = .string (allB key label k) ∧ t9 = .string (lastB key label k) ∧ t10 = .int .u8 ((k + 1 : Nat) : Int) ∧ Below w.heap.size w wr)
  case atStart => exact ⟨0, by omega, rfl, rfl, rfl, Below.refl _ _⟩
  case round =>
    obtain ⟨k, hkg, rfl, rfl, rfl, HB⟩ := hrel
    have has := allB_size key label k
    have hls := lastB_size key label k
    have HBs := HB.size
    have hn2 := HN.out
    have hkb : k ≤ 126 := by omega
    obtain ⟨A, hA⟩ : ∃ A, allB key label k = A := ⟨_, rfl⟩
    obtain ⟨L, hL⟩ : ∃ A, lastB key label k = A := ⟨_, rfl⟩
    rw [hA, hL]
    rw [hA] at has; rw [hL] at hls
    cases gk with
    | zero =>
      obtain rfl : k = N := by omega
      have hlt : ¬ (A.size : Int) < n := by omega
      have hle : (n : Int) ≤ A.size := by omega
      have hc := HCUT.out
      rw [hA] at hc
      clear hkg has hls hn2 hA hL HN HCUT
      go_wp2_with fail
      go_ret2
      exact ⟨rfl, HB⟩
    | succ gk =>
      have hlt : (A.size : Int) < n := by omega
      obtain ⟨i, hi⟩ : ∃ i, k + 1 = i := ⟨_, rfl⟩
      rw [hi]
      have hi2 : i ≤ 127 := by omega
      obtain ⟨c, hc⟩ : ∃ c : ByteArray, (⟨#[UInt8.ofNat i]⟩ : ByteArray) = c := ⟨_, rfl⟩
      have hcs : c.size = 1 := by rw [← hc]; rfl
      have hcast := fun b W B => cast_byte b i W B (by omega)
      rw [hc] at hcast
      have hh := fun b W t B => hsum_row b key [L, label, c] (L ++ label ++ c) W t B (catB_three _ _ _) (by omega) (by rw [ByteArray.size_append, ByteArray.size_append]; omega) (by simp)
      have hlast : hmacB key (L ++ label ++ c) = lastB key label i := by rw [← hi, lastB, ← hc, ← hi, hL]
      have hx32 : (lastB key label i).size = 32 := by rw [← hi, lastB]; exact hmacB_size _ _
      have hall : A ++ lastB key label i = allB key label i := by rw [← hi, allB, hA]
      rw [hlast] at hh
      obtain ⟨X, hX⟩ : ∃ X, lastB key label i = X := ⟨_, rfl⟩
      rw [hX] at hh hx32 hall
      have hadd : ∀ W, (Op.stringOp .add A X).run Try.prog W = .ok (.string (A ++ X)) W := fun W => run_string_add_sum W _ _ (by omega)
      have HH := Lib.hid hh; have HALL := Lib.hid hall; have HI := Lib.hid hi; have HX := Lib.hid hX; have HK := Lib.hid hkg
      have hcv := hcast wr.heap.size (wr.alloc (.cells #[.int .u8 ((i : Nat) : Int)] 5)) (Blk.new' rfl)
      clear hcast hh hlast hall hi hX hA hL hc hcs has hls hn2 hkg
      go_wp2_with fail
      refine (HH.out (wr.heap.size + 1) _ 9 ((Blk.new' (by simp)).conv rfl)).mono ?_
      rintro e W2 ⟨rfl, hb2⟩
      have HB2 : Below w.heap.size w W2 := Below.thn (by (repeat (first | (with_reducible assumption) | (with_reducible exact Below.refl _ _) | with_reducible apply bl_drewN | with_reducible apply Below.drew | (with_reducible apply bl_alloc; focus (first | (simp; done) | (simp; omega) | omega)) | (with_reducible apply bl_set; focus (first | (simp; done) | (simp; omega) | omega))))) hb2 (by simp; omega)
      clear hb2 hcv
      go_wp2_with fail
      go_roundg gk
      case rel => exact ⟨i, by have := HI.out; have := HK.out; omega, by rw [HALL.out], by rw [HX.out], by have := HI.out; first | (simp; done) | (simp; omega), HB2⟩
      case measure => omega
set_option maxHeartbeats 4000000 in
set_option maxRecDepth 20000 in
theorem derive_bad (key label : ByteArray) (n : Int) (w : World) (hn : n < 0 ∨ 8160 < n) :
    Calls Try.prog 68 #[.string key, .string label, .int .i64 n] w fun e w' => e = .returned (.tuple #[.string ⟨#[]⟩, .int .i64 7]) ∧ Below w.heap.size w w' := by
  by_cases h0 : n < 0
  · clear hn
    go_enter Try.func68, Try.ntmps68
    go_wp2_with fail
    go_ret2
    exact ⟨rfl, Below.refl _ _⟩
  · have h1 : 8160 < n := by omega
    clear hn
    go_enter Try.func68, Try.ntmps68
    go_wp2_with fail
    go_ret2
    exact ⟨rfl, Below.refl _ _⟩
end Go.Proofs.Ytkblkdojmfgneaa
