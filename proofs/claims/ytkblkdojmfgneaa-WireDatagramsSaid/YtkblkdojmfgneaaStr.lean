/- Texts as lists of bytes: plain lemmas. -/
import Derived.Lib.Strings
namespace Go.Proofs.Ytkblkdojmfgneaa

theorem ba_ext {s t : ByteArray} (h : s.data.toList = t.data.toList) : s = t := ByteArray.ext (Array.ext' h)
theorem ba_ext_iff {s t : ByteArray} : s = t ↔ s.data.toList = t.data.toList := ⟨fun h => h ▸ rfl, ba_ext⟩
theorem ba_size (s : ByteArray) : s.size = s.data.toList.length := rfl
theorem ba_app (s t : ByteArray) : (s ++ t).data.toList = s.data.toList ++ t.data.toList := by simp
theorem ba_extract (s : ByteArray) (a b : Nat) : (s.extract a b).data.toList = (s.data.toList.drop a).take (b - a) := Lib.extract_data s a b
theorem ba_toList (s : ByteArray) : s.toList = s.data.toList := Lib.toList_data s
theorem sz_app (s t : ByteArray) : (s ++ t).size = s.size + t.size := ByteArray.size_append
theorem sz_ext (s : ByteArray) (a b : Nat) : (s.extract a b).size = min b s.size - a := ByteArray.size_extract
theorem ext_app (s t : ByteArray) (n : Nat) (h : n = s.size) : (s ++ t).extract n (s ++ t).size = t := by
  subst h
  apply ba_ext
  have e1 : s.data.toList.length = s.size := rfl
  have e2 : t.data.toList.length = t.size := rfl
  rw [ba_extract, ba_app, sz_app, ← e1, List.drop_left, List.take_of_length_le (by omega)]
theorem ba_beq (s t : ByteArray) : (s.toList == t.toList) = decide (s = t) := by
  rw [ba_toList, ba_toList, Bool.eq_iff_iff, decide_eq_true_eq, ba_ext_iff]
  simp
end Go.Proofs.Ytkblkdojmfgneaa
