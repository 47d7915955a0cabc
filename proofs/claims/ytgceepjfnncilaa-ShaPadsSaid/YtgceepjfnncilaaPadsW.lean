/- ShaPads: the walk. -/
import Derived.Test.YtgceepjfnncilaaSha11
namespace Go.Proofs.Ytgceepjfnncilaa
open Go.RowKit

theorem be64_inj {n m : Nat} (h : be64 n = be64 m) (hn : n < 65536) (hm : m < 65536) : n = m := by
  have h6 : (be64 n)[6]? = (be64 m)[6]? := by rw [h]
  have h7 : (be64 n)[7]? = (be64 m)[7]? := by rw [h]
  simp only [be64, List.getElem?_map] at h6 h7
  simp [List.range_succ] at h6 h7
  have e6 := congrArg UInt8.toNat h6
  have e7 := congrArg UInt8.toNat h7
  simp at e6 e7
  omega
theorem wholeL_inj {s t : List UInt8} (h : wholeL s = wholeL t) (hs : s.length < 8000) (ht : t.length < 8000) : s = t := by
  have h8 : ∀ n, (be64 n).length = 8 := fun n => by simp [be64]
  have hl := congrArg List.length h
  have h1 : (wholeL s).drop ((wholeL s).length - 8) = be64 (8 * s.length) := by
    have : wholeL s = (s ++ [128] ++ List.replicate (padN s.length) 0) ++ be64 (8 * s.length) := rfl
    rw [this, List.length_append, h8, Nat.add_sub_cancel, List.drop_left]
  have h2 : (wholeL t).drop ((wholeL t).length - 8) = be64 (8 * t.length) := by
    have : wholeL t = (t ++ [128] ++ List.replicate (padN t.length) 0) ++ be64 (8 * t.length) := rfl
    rw [this, List.length_append, h8, Nat.add_sub_cancel, List.drop_left]
  have h3 := be64_inj (h1.symm.trans ((by rw [h] : _ = (wholeL t).drop ((wholeL t).length - 8)).trans h2)) (by omega) (by omega)
  have h4 : s.length = t.length := by omega
  have h5 := congrArg (List.take s.length) h
  have h6 : (wholeL s).take s.length = s := by
    have : wholeL s = s ++ ([128] ++ List.replicate (padN s.length) 0 ++ be64 (8 * s.length)) := by simp [wholeL]
    rw [this, List.take_left]
  have h7 : (wholeL t).take t.length = t := by
    have : wholeL t = t ++ ([128] ++ List.replicate (padN t.length) 0 ++ be64 (8 * t.length)) := by simp [wholeL]
    rw [this, List.take_left]
  rw [h6, h4, h7] at h5
  exact h5
theorem whole_pre (s : List UInt8) : Lib.hasPrefix (wholeL s) (s ++ [128]) = true := by
  unfold Lib.hasPrefix
  rw [List.isPrefixOf_iff_prefix]
  exact ⟨List.replicate (padN s.length) 0 ++ be64 (8 * s.length), by simp [wholeL]⟩
theorem whole_last (s : List UInt8) (i : Nat) (hi : i < 8) : (wholeL s)[(wholeL s).length - 8 + i]? = (be64 (8 * s.length))[i]? := by
  have h8 : (be64 (8 * s.length)).length = 8 := by simp [be64]
  have : wholeL s = (s ++ [128] ++ List.replicate (padN s.length) 0) ++ be64 (8 * s.length) := rfl
  rw [this, List.length_append, h8, Nat.add_sub_cancel, List.getElem?_append_right (by omega), Nat.add_sub_cancel_left]
set_option maxHeartbeats 4000000 in
set_option maxRecDepth 20000 in
theorem pads_walk (s t : ByteArray) (w : World) (hs : s.size ≤ 300) (ht : t.size ≤ 300) : Calls Try.prog 4 #[.string s, .string t] w fun e w' => e = .returned (.bool true) ∧ Below w.heap.size w w' := by
  have hmx : ¬ (300 : Int) < max (s.size : Int) t.size := by omega
  obtain ⟨P, hP⟩ : ∃ S : ByteArray, (⟨(wholeL s.data.toList).toArray⟩ : ByteArray) = S := ⟨_, rfl⟩
  obtain ⟨Q, hQ⟩ : ∃ S : ByteArray, (⟨(wholeL t.data.toList).toArray⟩ : ByteArray) = S := ⟨_, rfl⟩
  have hWP := fun W => whole_any s W (by omega)
  have hWQ := fun W => whole_any t W (by omega)
  rw [hP] at hWP; rw [hQ] at hWQ
  obtain ⟨sn, hsn⟩ : ∃ n, s.size = n := ⟨_, rfl⟩
  obtain ⟨tn, htn⟩ : ∃ n, t.size = n := ⟨_, rfl⟩
  obtain ⟨pn, hpn⟩ : ∃ n, P.size = n := ⟨_, rfl⟩
  have hPl : P.data.toList = wholeL s.data.toList := by rw [← hP]
  have hQl : Q.data.toList = wholeL t.data.toList := by rw [← hQ]
  have hpl : pn = (wholeL s.data.toList).length := by rw [← hPl]; exact hpn.symm
  have hsl : s.data.toList.length = sn := hsn
  have htl : t.data.toList.length = tn := htn
  have hpm : (pn : Int) % 64 = 0 := by have := whole_mod s.data.toList; omega
  obtain ⟨d, hd⟩ : ∃ d, 9 + padN sn = d := ⟨_, rfl⟩
  have hpd : pn = sn + d := by rw [hpl, whole_len, hsl]; omega
  have hd9 : 9 ≤ d := by omega
  have hd73 : d < 73 := by rw [← hd]; unfold padN; omega
  have hdi : (pn : Int) - (sn : Int) = (d : Int) := by omega
  have hd9i : ¬ (d : Int) < 9 := by omega
  have hd9j : (9 : Int) ≤ (d : Int) := by omega
  have hd73i : (d : Int) < 73 := by omega
  obtain ⟨S8, hS8⟩ : ∃ S : ByteArray, s ++ ⟨#[128]⟩ = S := ⟨_, rfl⟩
  have hadd : ∀ W, (Op.stringOp .add s ⟨#[128]⟩).run Try.prog W = .ok (.string S8) W := fun W => by rw [← hS8]; exact run_string_add_sum W _ _ (by rw [hsn]; show sn + 1 ≤ _; omega)
  have hpre : Lib.hasPrefix P.data.toList S8.data.toList = true := by
    rw [hPl, ← hS8, ba_app]; exact whole_pre _
  have hg7 : P.data.toList[pn - 1]? = some (UInt8.ofNat (8 * sn)) := by
    have h5 := whole_last s.data.toList 7 (by omega)
    rw [hPl, hpl, show (wholeL s.data.toList).length - 1 = (wholeL s.data.toList).length - 8 + 7 by omega, h5, hsl]
    simp [be64, List.range_succ]
  have hg6 : P.data.toList[pn - 2]? = some (UInt8.ofNat (8 * sn / 256)) := by
    have h5 := whole_last s.data.toList 6 (by omega)
    rw [hPl, hpl, show (wholeL s.data.toList).length - 2 = (wholeL s.data.toList).length - 8 + 6 by omega, h5, hsl]
    simp [be64, List.range_succ]
  have hHP := fun W => Try.strings_HasPrefix P S8 W
  rw [hpre] at hHP
  have heq : (P = Q) ↔ s = t := by
    constructor
    · intro h
      apply ba_ext
      exact wholeL_inj (by rw [← hPl, ← hQl, h]) (by omega) (by omega)
    · rintro rfl
      rw [← hP, ← hQ]
  have HP := Lib.hid hWP; have HQ := Lib.hid hWQ; have HHP := Lib.hid hHP
  have HG7 := Lib.hid hg7; have HG6 := Lib.hid hg6; have HEQ := Lib.hid heq
  have hp1 : (pn : Int) - 1 = ((pn - 1 : Nat) : Int) := by omega
  have hp2 : (pn : Int) - 2 = ((pn - 2 : Nat) : Int) := by omega
  obtain ⟨p1, h1⟩ : ∃ n, pn - 1 = n := ⟨_, rfl⟩
  obtain ⟨p2, h2⟩ : ∃ n, pn - 2 = n := ⟨_, rfl⟩
  rw [h1] at hp1 HG7; rw [h2] at hp2 HG6
  have hp1l : (p1 : Int) < pn := by omega
  have hp2l : (p2 : Int) < pn := by omega
  have hq1 : p1 < P.size := by omega
  have hq2 : p2 < P.size := by omega
  have e7 : (((P[p1]'hq1).toNat : Nat) : Int) = 8 * (sn : Int) % 256 := by
    have h5 := (List.getElem?_eq_some_iff.1 HG7.out).2
    have h6 : P[p1]'hq1 = UInt8.ofNat (8 * sn) := h5
    rw [h6]; simp
  have e6 : (((P[p2]'hq2).toNat : Nat) : Int) = (sn : Int) / 32 := by
    have h5 := (List.getElem?_eq_some_iff.1 HG6.out).2
    have h6 : P[p2]'hq2 = UInt8.ofNat (8 * sn / 256) := h5
    rw [h6]; simp; omega
  clear HG6 HG7
  have HS := Lib.hid hsn; have HT := Lib.hid htn; have HPN := Lib.hid hpn
  rw [hsn, htn] at hmx
  rw [hsn] at hs; rw [htn] at ht
  clear hWP hWQ hHP hg7 hg6 heq hpre hS8 hP hQ hPl hQl hpl hsl htl hd hpd h1 h2
  go_enter Try.func4, Try.ntmps4
  go_wp2_with fail
  refine (awake03_any w).mono ?_
  rintro e W1 ⟨rfl, hb⟩
  go_wp2_with fail
  refine (HP.out _).mono ?_
  rintro e W2 ⟨rfl, hb2⟩
  have HB2 := Below.thn hb hb2 hb.size
  have HB2s := HB2.size
  go_wp2_with fail
  refine (HQ.out _).mono ?_
  rintro e W3 ⟨rfl, hb3⟩
  have HB3 := Below.thn HB2 hb3 HB2s
  clear hb hb2 hb3 HP HQ
  go_wp2_with fail
  refine (HHP.out _).mono ?_
  rintro e W4 ⟨rfl, rfl⟩
  go_wp2_with fail
  go_ret
  refine ⟨?_, HB3⟩
  rw [ba_beq, ba_beq]
  congr 2
  have h5 := HEQ.out
  by_cases h : s = t
  · rw [decide_eq_true h, decide_eq_true (h5.2 h)]; rfl
  · rw [decide_eq_false h, decide_eq_false (fun g => h (h5.1 g))]; rfl
set_option maxHeartbeats 4000000 in
set_option maxRecDepth 20000 in
theorem pads_long (s t : ByteArray) (w : World) (h : 300 < s.size ∨ 300 < t.size) (h1 : s.size < 2 ^ 62) (h2 : t.size < 2 ^ 62) : Calls Try.prog 4 #[.string s, .string t] w fun e w' => e = .returned (.bool true) ∧ Below w.heap.size w w' := by
  have hmx : (300 : Int) < max (s.size : Int) t.size := by omega
  clear h h1 h2
  go_enter Try.func4, Try.ntmps4
  go_wp2_with fail
  refine (awake03_any w).mono ?_
  rintro e W1 ⟨rfl, hb⟩
  go_wp2_with fail
  go_ret
  exact ⟨rfl, hb⟩
end Go.Proofs.Ytgceepjfnncilaa
