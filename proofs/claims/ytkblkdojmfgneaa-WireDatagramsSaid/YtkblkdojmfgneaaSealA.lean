/- Seal: the plain law; a box's cells. Package seal: Nonce, Seq, Size, Head, New, whole. Package seal: tag, Seal, Open. Package seal: Open, Nonce, Seq. -/
import Derived.Test.YtkblkdojmfgneaaHmacA
import Derived.Test.YtkblkdojmfgneaaRCtr
import Derived.Test.YtkblkdojmfgneaaHmacB
namespace Go.Proofs.Ytkblkdojmfgneaa
open Go.RowKit

theorem foldl_zip (off : Nat) : ∀ (l : List Value) (k : Nat) (cs : Array Value), off + k + l.length ≤ cs.size →
    List.foldl (fun (cs : Array Value) (x : Value × Nat) => cs.setIfInBounds (off + x.2) x.1) cs (l.zipIdx k) = (cs.toList.take (off + k) ++ l ++ cs.toList.drop (off + k + l.length)).toArray
  | [], k, cs, _ => by simp
  | v :: r, k, cs, h => by
    have ih := foldl_zip off r (k + 1) (cs.setIfInBounds (off + k) v) (by simp at h ⊢; omega)
    rw [List.zipIdx_cons, List.foldl_cons, ih]
    have ho : off + k < cs.toList.length := by simp at h ⊢; omega
    congr 1
    rw [Array.toList_setIfInBounds, show off + (k + 1) = (off + k) + 1 by omega, List.take_add_one, List.take_set_of_le (Nat.le_refl _), List.getElem?_set_self ho, List.drop_set_of_lt (by omega)]
    simp only [List.length_cons, Option.toList_some, List.append_assoc, List.singleton_append, List.cons_append, List.nil_append]
    rw [show off + k + 1 + r.length = off + k + (r.length + 1) by omega]
theorem foldl_agg (off : Nat) (K cs : Array Value) (h : off + K.size ≤ cs.size) :
    Array.foldl (fun (cs : Array Value) (x : Value × Nat) => cs.setIfInBounds (off + x.2) x.1) cs K.zipIdx 0 K.size = (cs.toList.take off ++ K.toList ++ cs.toList.drop (off + K.size)).toArray := by
  have h1 := foldl_zip off K.toList 0 cs (by simpa using h)
  have e : Array.foldl (fun (cs : Array Value) (x : Value × Nat) => cs.setIfInBounds (off + x.2) x.1) cs K.zipIdx 0 K.size = Array.foldl (fun (cs : Array Value) (x : Value × Nat) => cs.setIfInBounds (off + x.2) x.1) cs K.zipIdx := by
    rw [Array.size_zipIdx]
  rw [e, ← Array.foldl_toList, Array.toList_zipIdx, h1]
  simp
/-- A box's cells. -/
def xcells (K : Array Value) (m : ByteArray) : Array Value := (.bool true :: (K.toList ++ [.string m])).toArray
theorem xcells_size (K : Array Value) (m : ByteArray) (h : K.size = 433) : (xcells K m).size = 435 := by simp [xcells, h]
theorem xcells_one (K : Array Value) (m : ByteArray) (h : K.all (·.oneCell') = true) : (xcells K m).all (·.oneCell') = true := all_oneCell_toArray (fun v hv => by
  rcases List.mem_cons.1 hv with rfl | hv
  · rfl
  · rcases List.mem_append.1 hv with hv | hv
    · exact (Array.all_eq_true_iff_forall_mem.1 h) v (by simpa using hv)
    · rw [List.mem_singleton.1 hv]; rfl)
theorem xcells_0 (K : Array Value) (m : ByteArray) : (xcells K m)[0]? = some (.bool true) := rfl
theorem xcells_mac (K : Array Value) (m : ByteArray) (h : K.size = 433) : (xcells K m)[434]? = some (.string m) := by
  unfold xcells
  rw [List.getElem?_toArray, List.getElem?_cons_succ, List.getElem?_append_right (by simp [h])]
  simp [h]
theorem xcells_range {w : World} {b : Nat} {t : TypeId} (K : Array Value) (m : ByteArray) (B : Blk w b (xcells K m) t) : w.rangeAt b 1 K.toList := fun j v hv => by
  have hj : j < K.toList.length := (List.getElem?_eq_some_iff.1 hv).1
  rw [B.cell]
  unfold xcells
  rw [List.getElem?_toArray, Nat.add_comm 1 j, List.getElem?_cons_succ, List.getElem?_append_left hj, hv]
/-- A session's keys, and what they seal. -/
def encK (key : ByteArray) : List UInt8 := (derB key ⟨#[101, 110, 99]⟩ 16).data.toList
def macK (key : ByteArray) : ByteArray := derB key ⟨#[109, 97, 99]⟩ 32
theorem encK_len (key : ByteArray) : (encK key).length = 16 := derB_size key _ 16
def headB (id nonce : Nat) : ByteArray := ⟨(ctrB id nonce).toArray⟩
theorem headB_size (id nonce : Nat) : (headB id nonce).size = 16 := by unfold headB; rw [ba_size]; simp [ctrB_len]
def tagB (key : ByteArray) (id nonce : Nat) (t : ByteArray) : ByteArray := (hmacB (macK key) (headB id nonce ++ t)).extract 0 16
theorem tagB_size (key : ByteArray) (id nonce : Nat) (t : ByteArray) : (tagB key id nonce t).size = 16 := by
  unfold tagB
  rw [ByteArray.size_extract, hmacB_size]; rfl
def turnB (key : ByteArray) (nonce : Nat) (s : ByteArray) : ByteArray := ⟨(turnS (encK key) nonce s.data.toList).toArray⟩
theorem turnB_size (key : ByteArray) (nonce : Nat) (s : ByteArray) : (turnB key nonce s).size = s.size := by
  unfold turnB
  rw [ba_size]
  exact (by simp [turnS_len (encK key) nonce _ (encK_len key)])
theorem turnB_twice (key : ByteArray) (nonce : Nat) (s : ByteArray) : turnB key nonce (turnB key nonce s) = s := by
  unfold turnB
  exact ba_ext (turnS_twice (encK key) nonce s.data.toList (encK_len key))
def sealB (key : ByteArray) (id nonce : Nat) (body : ByteArray) : ByteArray := turnB key nonce body ++ tagB key id nonce (turnB key nonce body)
theorem sealB_size (key : ByteArray) (id nonce : Nat) (body : ByteArray) : (sealB key id nonce body).size = body.size + 16 := by
  unfold sealB
  rw [sz_app, turnB_size, tagB_size]
/-- What a text opens to; the error. -/
def openB (key : ByteArray) (id nonce : Nat) (s : ByteArray) : ByteArray × Nat :=
  if s.size < 16 then (⟨#[]⟩, 3) else
  if tagB key id nonce (s.extract 0 (s.size - 16)) = s.extract (s.size - 16) s.size then (turnB key nonce (s.extract 0 (s.size - 16)), 0) else (⟨#[]⟩, 8)
theorem ext_front (a b : ByteArray) : (a ++ b).extract 0 a.size = a := by
  apply ba_ext
  rw [ba_extract, ba_app, List.drop_zero, Nat.sub_zero, ba_size, List.take_left]
theorem openB_sealB (key : ByteArray) (id nonce : Nat) (body : ByteArray) : openB key id nonce (sealB key id nonce body) = (body, 0) := by
  have hs := sealB_size key id nonce body
  have ht := turnB_size key nonce body
  unfold openB
  rw [if_neg (by omega), show (sealB key id nonce body).size - 16 = (turnB key nonce body).size by omega]
  have e1 : (sealB key id nonce body).extract 0 (turnB key nonce body).size = turnB key nonce body := ext_front _ _
  have e2 : (sealB key id nonce body).extract (turnB key nonce body).size (sealB key id nonce body).size = tagB key id nonce (turnB key nonce body) := ext_app _ _ _ rfl
  rw [e1, e2, if_pos rfl, turnB_twice]
end Go.Proofs.Ytkblkdojmfgneaa

namespace Go.Proofs.Ytkblkdojmfgneaa
open Go.RowKit

theorem or_top (n : Nat) (h : n < 9223372036854775808) : bits .or .u64 (n : Int) 9223372036854775808 = ((n + 9223372036854775808 : Nat) : Int) := by
  have h5 := u64_or_nat n 9223372036854775808 (by omega) (by decide)
  rw [show ((9223372036854775808 : Nat) : Int) = 9223372036854775808 from rfl] at h5
  rw [h5]
  congr 1
  have h6 := Nat.two_pow_add_eq_or_of_lt (i := 63) (b := n) (by omega) 1
  rw [show (2 ^ 63 * 1 : Nat) = 9223372036854775808 from rfl] at h6
  rw [Nat.or_comm, ← h6, Nat.add_comm]
theorem and_top (n : Nat) (h : n < 18446744073709551616) : bits .and .u64 (n : Int) 9223372036854775808 = (if n < 9223372036854775808 then 0 else 9223372036854775808 : Int) := by
  have h5 := u64_and_nat n 9223372036854775808 h (by decide)
  rw [show ((9223372036854775808 : Nat) : Int) = 9223372036854775808 from rfl] at h5
  rw [h5]
  by_cases h1 : n < 9223372036854775808
  · rw [if_pos h1]
    have e : n &&& 9223372036854775808 = 0 := by
      apply Nat.eq_of_testBit_eq
      intro i
      rw [Nat.testBit_and, show (9223372036854775808 : Nat) = 2 ^ 63 from rfl, Nat.testBit_two_pow, Nat.zero_testBit]
      by_cases hi : 63 = i
      · subst hi
        rw [Nat.testBit_lt_two_pow (by omega)]; rfl
      · simp [hi]
    rw [e]; rfl
  · rw [if_neg h1]
    have e : n &&& 9223372036854775808 = 9223372036854775808 := by
      apply Nat.eq_of_testBit_eq
      intro i
      rw [Nat.testBit_and, show (9223372036854775808 : Nat) = 2 ^ 63 from rfl, Nat.testBit_two_pow]
      by_cases hi : 63 = i
      · subst hi
        rw [Nat.testBit_eq_decide_div_mod_eq, show n / 2 ^ 63 % 2 = 1 by omega]; rfl
      · simp [hi]
    rw [e]; rfl
theorem set_last {α : Type} (l : List α) (a b : α) (n : Nat) (h : l.length = n) : (l ++ [a]).set n b = l ++ [b] := by
  subst h
  induction l with
  | nil => rfl
  | cons x r ih => simp only [List.cons_append, List.length_cons, List.set_cons_succ, ih]
set_option maxHeartbeats 4000000 in
theorem size_any (n : Nat) (hn : n ≤ 1000000) (w : World) : Calls Try.prog 33 #[.int .i64 (n : Int)] w fun e w' => e = .returned (.int .i64 ((n : Int) + 16)) ∧ w' = w := by
  go_enter Try.func33, Try.ntmps33
  go_wp2_with fail
  go_ret
  exact ⟨rfl, rfl⟩
set_option maxHeartbeats 4000000 in
theorem head_any (id nonce : Nat) (hi : id ≤ 18446744073709551615) (hn : nonce ≤ 18446744073709551615) (w : World) : Calls Try.prog 34 #[.int .u64 (id : Int), .int .u64 (nonce : Int)] w fun e w' => e = .returned (.string (headB id nonce)) ∧ Below w.heap.size w w' := by
  have hba := ba_list (putB id 8) (putB nonce 8)
  rw [show (⟨(putB id 8 ++ putB nonce 8).toArray⟩ : ByteArray) = headB id nonce from rfl] at hba
  have hp1 := putB_len id 8; have hp2 := putB_len nonce 8
  obtain ⟨H, hH⟩ : ∃ h, headB id nonce = h := ⟨_, rfl⟩
  rw [hH] at hba ⊢
  clear hH
  go_enter Try.func34, Try.ntmps34
  go_wp2_with fail
  refine (wput_any id 8 _ hi (by decide) (by decide)).mono ?_
  rintro e W1 ⟨rfl, hb⟩
  have HB1 := Below.thn (Below.refl w.heap.size w) hb (Nat.le_refl _)
  have hs1 := HB1.size
  clear hb
  go_wp2_with fail
  refine (wput_any nonce 8 _ hn (by decide) (by decide)).mono ?_
  rintro e W2 ⟨rfl, hb⟩
  have HB2 := Below.thn HB1 hb hs1
  clear hb HB1
  go_wp2_with fail
  go_ret
  exact ⟨rfl, HB2⟩
theorem build_box (K : Array Value) (m : ByteArray) (h : K.size = 433) : (Array.foldl (fun (cs : Array Value) (x : Value × Nat) => cs.setIfInBounds (1 + x.2) x.1) (Try.zeroCells51.setIfInBounds 0 (.bool true)) K.zipIdx 0 K.size).setIfInBounds 434 (.string m) = xcells K m := by
  have hz : Try.zeroCells51.size = 435 := by kernel_rfl
  rw [foldl_agg 1 K _ (by simp [hz, h])]
  have h0 : (Try.zeroCells51.setIfInBounds 0 (.bool true)).toList.take 1 = [.bool true] := by kernel_rfl
  have h1 : (Try.zeroCells51.setIfInBounds 0 (.bool true)).toList.drop 434 = [.string ⟨#[]⟩] := by kernel_rfl
  rw [h0, show 1 + K.size = 434 by omega, h1, List.setIfInBounds_toArray, set_last _ _ _ 434 (by rw [List.length_append, Array.length_toList]; show 1 + K.size = 434; omega)]
  rfl
set_option maxHeartbeats 8000000 in
set_option maxRecDepth 20000 in
theorem snew_any (key : ByteArray) (w : World) (h1 : 1 ≤ key.size) (h2 : key.size ≤ 64) : Calls Try.prog 26 #[.string key] w fun e w' => e = .returned (.tuple #[.agg (xcells (kcells (keysN (encK key) 10)).toArray (macK key)), .int .i64 0]) ∧ Below w.heap.size w w' := by
  have hki : ¬ (64 : Int) < (key.size : Int) := by omega
  have hne : ¬ key.toList = [] := fun h => by
    rw [ba_toList] at h
    have : key.data.toList.length = 0 := by rw [h]; rfl
    rw [← ba_size] at this
    omega
  have hne2 : key.toList.isEmpty = false := by
    cases h : key.toList with
    | nil => exact absurd h hne
    | cons a r => rfl
  have hel := encK_len key
  have d1 := fun W => derive_any key ⟨#[101, 110, 99]⟩ 16 W (by omega) (by decide) (by decide)
  have d2 := fun W => derive_any key ⟨#[109, 97, 99]⟩ 32 W (by omega) (by decide) (by decide)
  have hnw := fun W => new_any (derB key ⟨#[101, 110, 99]⟩ 16) W (derB_size _ _ _)
  rw [show (derB key ⟨#[101, 110, 99]⟩ 16).data.toList = encK key from rfl] at hnw
  rw [show derB key ⟨#[109, 97, 99]⟩ 32 = macK key from rfl] at d2
  obtain ⟨D, hD⟩ : ∃ D, derB key ⟨#[101, 110, 99]⟩ 16 = D := ⟨_, rfl⟩
  obtain ⟨M, hM⟩ : ∃ D, macK key = D := ⟨_, rfl⟩
  rw [hD] at d1 hnw; rw [hM] at d2 ⊢
  have hone := kcells_one (keysN (encK key) 10)
  have hKs := keysN_size (encK key) hel
  obtain ⟨K, hK⟩ : ∃ K, (kcells (keysN (encK key) 10)).toArray = K := ⟨_, rfl⟩
  rw [hK] at hnw hone hKs ⊢
  have hbd := build_box K M hKs
  have hxs := xcells_size K M hKs
  have hxo := xcells_one K M hone
  have hz : Try.zeroCells51.size = 435 := by kernel_rfl
  obtain ⟨XC, hXC⟩ : ∃ c, xcells K M = c := ⟨_, rfl⟩
  rw [hXC] at hbd hxs hxo ⊢
  rw [hKs] at hbd
  have hfs : (Array.foldl (fun (cs : Array Value) (x : Value × Nat) => cs.setIfInBounds (1 + x.2) x.1) (Try.zeroCells51.setIfInBounds 0 (.bool true)) K.zipIdx 0 433).size = 435 := by
    have h5 := congrArg Array.size hbd
    rw [Array.size_setIfInBounds, hxs] at h5
    exact h5
  have D1 := Lib.hid d1; have D2 := Lib.hid d2; have NW := Lib.hid hnw
  clear d1 d2 hnw hD hM hK hXC
  go_enter Try.func26, Try.ntmps26
  go_upto_region 1 with fail
  refine wp_absQ (fun W => Below w.heap.size w W ∧ Blk W w.heap.size Try.zeroCells51 51) ⟨by (repeat (first | (with_reducible assumption) | (with_reducible exact Below.refl _ _) | with_reducible apply bl_drewN | with_reducible apply Below.drew | (with_reducible apply bl_alloc; focus (first | (simp; done) | (simp; omega) | omega)) | (with_reducible apply bl_set; focus (first | (simp; done) | (simp; omega) | omega)))), Blk.new _ _ _⟩ (fun W0 V0 => ?_)
  obtain ⟨HB0, Z0⟩ := V0
  go_wp2_with fail
  refine (D1.out _).mono ?_
  rintro e W1 ⟨rfl, hb⟩
  have HB1 := Below.thn HB0 hb HB0.size
  have Z1 := Z0.below hb
  clear hb HB0 Z0
  go_wp2_with fail
  refine (D2.out _).mono ?_
  rintro e W2 ⟨rfl, hb⟩
  have HB2 := Below.thn HB1 hb HB1.size
  have Z2 := Z1.below hb
  clear hb HB1 Z1
  go_wp2_with fail
  refine (NW.out _).mono ?_
  rintro e W3 ⟨rfl, hb⟩
  have HB3 := Below.thn HB2 hb HB2.size
  have Z3 := Z2.below hb
  have hz3 := Z3.lt
  have hs3 := HB3.size
  clear hb HB2 Z2
  go_upto_region 6 with (refine wpList_put rfl 29 _ _ rfl W3.heap.size _ _ 29 rfl rfl (Blk.new _ _ _) (by rw [hKs]; kernel_rfl) (hKs.trans zkey_size.symm) hone (fun W4 hp4 K4 => ?_))
  (try simp only [Act.put])
  have HB4 : Below w.heap.size w W4 := hp4.below hs3 (by (repeat (first | (with_reducible assumption) | (with_reducible exact Below.refl _ _) | with_reducible apply bl_drewN | with_reducible apply Below.drew | (with_reducible apply bl_alloc; focus (first | (simp; done) | (simp; omega) | omega)) | (with_reducible apply bl_set; focus (first | (simp; done) | (simp; omega) | omega)))))
  have Z4 : Blk W4 w.heap.size Try.zeroCells51 51 := hp4.blk (by omega) (Blk.alloc Z3)
  obtain ⟨kb, hkb⟩ : ∃ b, W3.heap.size = b := ⟨_, rfl⟩
  rw [hkb] at K4 ⊢
  clear hp4 hkb HB3 Z3 hz3 hs3
  go_wp2_with (first | (refine wpList_load_row rfl 29 _ rfl kb rfl 29 _ (0, 0) _ K4.out Try.underlying29 rfl (by rw [hKs]; kernel_rfl) ?_) | (refine wpList_put rfl 51 _ _ rfl w.heap.size _ XC 51 rfl rfl Z4 (by rw [hxs]; kernel_rfl) (hxs.trans hz.symm) hxo (fun W9 hp9 B9 => ?_)))

  refine bodyPost_ret (v := .tuple #[.agg XC, .int .i64 0]) ?_ rfl ⟨rfl, hp9.below (Nat.le_refl _) HB4⟩
  exact results_cell_tmp (Try.results26) _ _ w.heap.size 51 _ (0, 0) _ _ rfl rfl B9.out Try.underlying51 rfl (by rw [hxs]; kernel_rfl)
end Go.Proofs.Ytkblkdojmfgneaa

namespace Go.Proofs.Ytkblkdojmfgneaa
open Go.RowKit

/-- The cells of a key's box. -/
def boxK (key : ByteArray) : Array Value := xcells (kcells (keysN (encK key) 10)).toArray (macK key)
theorem kc_size (key : ByteArray) : (kcells (keysN (encK key) 10)).toArray.size = 433 := keysN_size (encK key) (encK_len key)
theorem boxK_size (key : ByteArray) : (boxK key).size = 435 := xcells_size _ _ (kc_size key)
theorem boxK_one (key : ByteArray) : (boxK key).all (·.oneCell') = true := xcells_one _ _ (kcells_one _)
theorem boxK_mac (key : ByteArray) : (boxK key)[434]? = some (.string (macK key)) := xcells_mac _ _ (kc_size key)
set_option maxHeartbeats 4000000 in
set_option maxRecDepth 20000 in
theorem tag_any (key t : ByteArray) (id nonce : Nat) (hi : id ≤ 18446744073709551615) (hn : nonce ≤ 18446744073709551615) (ht : t.size ≤ 4000) (w : World) :
    Calls Try.prog 70 #[.agg (boxK key), .int .u64 (id : Int), .int .u64 (nonce : Int), .string t] w fun e w' => e = .returned (.string (tagB key id nonce t)) ∧ Below w.heap.size w w' := by
  have hm := boxK_mac key
  have hMs : (macK key).size = 32 := derB_size _ _ _
  have hH := fun W => head_any id nonce hi hn W
  have hHs := headB_size id nonce
  have hs := fun (b : Nat) (W : World) (ty : TypeId) (B : Blk W b #[.string (headB id nonce), .string t] ty) => hsum_row b (macK key) [headB id nonce, t] (headB id nonce ++ t) W ty B (ba_ext (by simp [catB])) (by omega) (by rw [sz_app]; omega) (by show 2 ≤ 1000; decide)
  have htg : (hmacB (macK key) (headB id nonce ++ t)).extract 0 16 = tagB key id nonce t := rfl
  have hhs := hmacB_size (macK key) (headB id nonce ++ t)
  obtain ⟨KB, hKB⟩ : ∃ k, boxK key = k := ⟨_, rfl⟩
  obtain ⟨M, hM⟩ : ∃ k, macK key = k := ⟨_, rfl⟩
  obtain ⟨H, hHH⟩ : ∃ k, headB id nonce = k := ⟨_, rfl⟩
  rw [hKB, hM] at hm
  rw [hHH] at hH
  rw [hM, hHH] at hs htg hhs
  obtain ⟨S, hS⟩ : ∃ k, hmacB M (H ++ t) = k := ⟨_, rfl⟩
  obtain ⟨T, hT⟩ : ∃ k, tagB key id nonce t = k := ⟨_, rfl⟩
  rw [hS] at hs htg hhs; rw [hT] at htg
  rw [hKB, hT]
  have HH := Lib.hid hH; have HS := Lib.hid hs
  have hSi : (S.size : Int) = 32 := by omega
  clear hH hs hKB hM hHH hS hT hMs hHs
  go_enter Try.func70, Try.ntmps70
  go_upto_region 1 with fail
  refine wp_absQ (fun W => Below w.heap.size w W ∧ Blk W w.heap.size KB 51) ⟨by (repeat (first | (with_reducible assumption) | (with_reducible exact Below.refl _ _) | with_reducible apply bl_drewN | with_reducible apply Below.drew | (with_reducible apply bl_alloc; focus (first | (simp; done) | (simp; omega) | omega)) | (with_reducible apply bl_set; focus (first | (simp; done) | (simp; omega) | omega)))), Blk.new _ _ _⟩ (fun W0 V0 => ?_)
  obtain ⟨HB0, B0⟩ := V0
  have c0 := B0.cell 434
  rw [hm] at c0
  refine wp_region_typed 9 (fun k => match k with | 7 => [6] | _ => []) (fun k => match k with  | _ => false) (fun k => match k with | 4 => some ⟨(Unit), (()), (fun _ => .string H), (fun _ _ => True), (fun _ _ _ h _ => h)⟩ | 6 => some ⟨(Nat), (0), (fun b => .slice (some ⟨b, 0, none⟩) 2 2), (fun b w => Blk w b #[.string H, .string t] 9), (fun b w w' h hb => h.below hb)⟩ | 7 => some ⟨(Unit), (()), (fun _ => .string S), (fun _ _ => True), (fun _ _ _ h _ => h)⟩ | _ => none) (by kernel_rfl) (by kernel_rfl) (by intro d0 v0 c0 a0 w0 h0; first | (cases d0 <;> exact h0) | exact hP _ _ _ _ _ h0) ?_
  rw [show List.range 9 = [0, 1, 2, 3, 4, 5, 6, 7, 8] from rfl]
  first
    | (refine ty_skip rfl rfl ?_; (try simp only [Act.put, List.setIfInBounds_toArray, List.set_cons_zero, List.set_cons_succ]))
    | (refine ty_pure rfl rfl rfl rfl ?_; apply Exists.intro; refine ⟨fun wq hq hk => ?_, ?_⟩
       · have f0 := hq.cell c0; simp only [pureAt]; go_simp; (try simp only [↓IntWalk.iteOmega]); (try go_bits); (try simp only [pureUpon]); (first | done | exact ⟨rfl, rfl⟩ | exact ⟨trivial, rfl⟩ | rfl)
       (try simp only [Act.put, List.setIfInBounds_toArray, List.set_cons_zero, List.set_cons_succ]))
  first
    | (refine ty_skip rfl rfl ?_; (try simp only [Act.put, List.setIfInBounds_toArray, List.set_cons_zero, List.set_cons_succ]))
    | (refine ty_pure rfl rfl rfl rfl ?_; apply Exists.intro; refine ⟨fun wq hq hk => ?_, ?_⟩
       · have f0 := hq.cell c0; simp only [pureAt]; go_simp; (try simp only [↓IntWalk.iteOmega]); (try go_bits); (try simp only [pureUpon]); (first | done | exact ⟨rfl, rfl⟩ | exact ⟨trivial, rfl⟩ | rfl)
       (try simp only [Act.put, List.setIfInBounds_toArray, List.set_cons_zero, List.set_cons_succ]))
  first
    | (refine ty_skip rfl rfl ?_; (try simp only [Act.put, List.setIfInBounds_toArray, List.set_cons_zero, List.set_cons_succ]))
    | (refine ty_pure rfl rfl rfl rfl ?_; apply Exists.intro; refine ⟨fun wq hq hk => ?_, ?_⟩
       · have f0 := hq.cell c0; simp only [pureAt]; go_simp; (try simp only [↓IntWalk.iteOmega]); (try go_bits); (try simp only [pureUpon]); (first | done | exact ⟨rfl, rfl⟩ | exact ⟨trivial, rfl⟩ | rfl)
       (try simp only [Act.put, List.setIfInBounds_toArray, List.set_cons_zero, List.set_cons_succ]))
  first
    | (refine ty_skip rfl rfl ?_; (try simp only [Act.put, List.setIfInBounds_toArray, List.set_cons_zero, List.set_cons_succ]))
    | (refine ty_pure rfl rfl rfl rfl ?_; apply Exists.intro; refine ⟨fun wq hq hk => ?_, ?_⟩
       · have f0 := hq.cell c0; simp only [pureAt]; go_simp; (try simp only [↓IntWalk.iteOmega]); (try go_bits); (try simp only [pureUpon]); (first | done | exact ⟨rfl, rfl⟩ | exact ⟨trivial, rfl⟩ | rfl)
       (try simp only [Act.put, List.setIfInBounds_toArray, List.set_cons_zero, List.set_cons_succ]))
  refine ty_rel rfl rfl _ rfl rfl (fun wq hq hk => ?_) ?_
  · have f0 := hq.cell c0; simp only [relAt]; go_simp; (try simp only [relUpon]); (go_at_call 34; refine (HH.out _).mono ?_; rintro e w9 ⟨rfl, hb9⟩; exact ⟨_, rfl, .mk hb9 () rfl trivial⟩)
  rintro ⟨⟩
  (try simp only [Act.put, List.setIfInBounds_toArray, List.set_cons_zero, List.set_cons_succ])
  first
    | (refine ty_skip rfl rfl ?_; (try simp only [Act.put, List.setIfInBounds_toArray, List.set_cons_zero, List.set_cons_succ]))
    | (refine ty_pure rfl rfl rfl rfl ?_; apply Exists.intro; refine ⟨fun wq hq hk => ?_, ?_⟩
       · have f0 := hq.cell c0; simp only [pureAt]; go_simp; (try simp only [↓IntWalk.iteOmega]); (try go_bits); (try simp only [pureUpon]); (first | done | exact ⟨rfl, rfl⟩ | exact ⟨trivial, rfl⟩ | rfl)
       (try simp only [Act.put, List.setIfInBounds_toArray, List.set_cons_zero, List.set_cons_succ]))
  refine ty_rel rfl rfl _ rfl rfl (fun wq hq hk => ?_) ?_
  · have f0 := hq.cell c0; simp only [relAt]; go_simp; (try simp only [relUpon]); exact .mk ((Below.refl _ _).alloc (Nat.le_refl _) _) wq.heap.size rfl (Blk.new wq _ _)
  rintro (b6 : Nat)
  (try simp only [Act.put, List.setIfInBounds_toArray, List.set_cons_zero, List.set_cons_succ])
  refine ty_rel rfl rfl _ rfl rfl (fun wq hq hk => ?_) ?_
  · have f0 := hq.cell c0; have hr := hk _ (.head _) rfl; simp only [relAt]; go_simp; (try simp only [relUpon]); (go_at_call 90; refine (HS.out b6 wq _ hr).mono ?_; rintro e w9 ⟨rfl, hb9⟩; exact ⟨_, rfl, .mk hb9 () rfl trivial⟩)
  rintro ⟨⟩
  (try simp only [Act.put, List.setIfInBounds_toArray, List.set_cons_zero, List.set_cons_succ])
  first
    | (refine ty_skip rfl rfl ?_; (try simp only [Act.put, List.setIfInBounds_toArray, List.set_cons_zero, List.set_cons_succ]))
    | (refine ty_pure rfl rfl rfl rfl ?_; apply Exists.intro; refine ⟨fun wq hq hk => ?_, ?_⟩
       · have f0 := hq.cell c0; simp only [pureAt]; go_simp; (try simp only [↓IntWalk.iteOmega]); (try go_bits); (try simp only [pureUpon]); (first | done | exact ⟨rfl, rfl⟩ | exact ⟨trivial, rfl⟩ | rfl)
       (try simp only [Act.put, List.setIfInBounds_toArray, List.set_cons_zero, List.set_cons_succ]))
  refine ty_nil ?_
  simp only [List.drop_succ_cons, List.drop_zero]
  intro W8 hw8 hΓ
  have HB8 := Below.thn HB0 hw8.out HB0.size
  clear hΓ hw8
  go_wp2_with fail
  go_ret
  exact ⟨rfl, HB8⟩
set_option maxHeartbeats 4000000 in
set_option maxRecDepth 20000 in
theorem swhole_any (key : ByteArray) (w : World) : Calls Try.prog 69 #[.agg (boxK key)] w fun e w' => e = .returned (.agg (boxK key)) ∧ Below w.heap.size w w' := by
  have hone := boxK_one key
  have hKs := boxK_size key
  have hK0 : (boxK key)[0]? = some (.bool true) := rfl
  obtain ⟨K, hK⟩ : ∃ K, boxK key = K := ⟨_, rfl⟩
  rw [hK] at hone hKs hK0 ⊢
  clear hK
  have hzs : Try.zeroCells51.size = 435 := by kernel_rfl
  go_enter Try.func69, Try.ntmps69
  go_upto_region 1 with fail
  refine wp_absQ (fun W => Below w.heap.size w W ∧ Blk W w.heap.size K 51 ∧ Blk W (w.heap.size + 1) Try.zeroCells51 51) ⟨by (repeat (first | (with_reducible assumption) | (with_reducible exact Below.refl _ _) | with_reducible apply bl_drewN | with_reducible apply Below.drew | (with_reducible apply bl_alloc; focus (first | (simp; done) | (simp; omega) | omega)) | (with_reducible apply bl_set; focus (first | (simp; done) | (simp; omega) | omega)))), by (repeat (first | (with_reducible assumption) | (with_reducible apply Blk.new'; (first | (with_reducible rfl) | (simp; done))) | with_reducible apply Blk.alloc | with_reducible apply Blk.set | ((with_reducible apply Blk.set_ne); focus (first | (simp; done) | (simp; omega))) | with_reducible apply Blk.drewN | with_reducible apply Blk.drew)), by (repeat (first | (with_reducible assumption) | (with_reducible apply Blk.new'; (first | (with_reducible rfl) | (simp; done))) | with_reducible apply Blk.alloc | with_reducible apply Blk.set | ((with_reducible apply Blk.set_ne); focus (first | (simp; done) | (simp; omega))) | with_reducible apply Blk.drewN | with_reducible apply Blk.drew))⟩ (fun W1 V1 => ?_)
  obtain ⟨HB1, K1, Z1⟩ := V1
  have c1 := K1.cell 0
  rw [hK0] at c1
  go_wp2_with (first | (refine wpList_load_row rfl 51 _ rfl w.heap.size rfl 51 _ (0, 0) _ K1.out Try.underlying51 rfl (by rw [hKs]; kernel_rfl) ?_) | (refine wpList_put rfl 51 _ _ rfl (w.heap.size + 1) _ _ 51 rfl rfl Z1 (by rw [hKs]; kernel_rfl) (hKs.trans hzs.symm) hone (fun W9 hp9 B9 => ?_)))
  refine bodyPost_ret (v := .agg K) ?_ rfl ⟨rfl, hp9.below (by omega) HB1⟩
  exact results_cell_row (Try.results69) _ _ (w.heap.size + 1) 51 _ (0, 0) _ rfl B9.out Try.underlying51 rfl (by rw [hKs]; kernel_rfl)
set_option maxHeartbeats 4000000 in
set_option maxRecDepth 20000 in
theorem seal_gen (BV : Array Value) (key body : ByteArray) (hbv : BV.size = 435) (hwh : ∀ W, Calls Try.prog 69 #[.agg BV] W fun e w' => e = .returned (.agg (boxK key)) ∧ Below W.heap.size W w') (id nonce : Nat) (hi : id ≤ 18446744073709551615) (hn : nonce ≤ 18446744073709551615) (hb : body.size ≤ 3000) (w : World) :
    Calls Try.prog 27 #[.agg BV, .int .u64 (id : Int), .int .u64 (nonce : Int), .string body] w fun e w' => e = .returned (.string (sealB key id nonce body)) ∧ Below w.heap.size w w' := by
  have htu := fun W => cturn_any (encK key) nonce body (encK_len key) hn (by omega) W
  rw [show (⟨(turnS (encK key) nonce body.data.toList).toArray⟩ : ByteArray) = turnB key nonce body from rfl] at htu
  have hts := turnB_size key nonce body
  have htg := fun W => tag_any key (turnB key nonce body) id nonce hi hn (by omega) W
  have hgs := tagB_size key id nonce (turnB key nonce body)
  have hap : turnB key nonce body ++ tagB key id nonce (turnB key nonce body) = sealB key id nonce body := rfl
  have hsz := boxK_size key
  have hone := boxK_one key
  have hks := kc_size key
  obtain ⟨K, hK⟩ : ∃ k, (kcells (keysN (encK key) 10)).toArray = k := ⟨_, rfl⟩
  have hkr := fun (W : World) (b : Nat) (B : Blk W b (boxK key) 51) => xcells_range _ _ B
  rw [hK] at hkr hks
  obtain ⟨KB, hKB⟩ : ∃ k, boxK key = k := ⟨_, rfl⟩
  rw [hKB] at hsz hone hwh hkr
  rw [hKB] at htg
  rw [hK] at htu
  obtain ⟨T, hT⟩ : ∃ k, turnB key nonce body = k := ⟨_, rfl⟩
  rw [hT] at htu hts htg hgs hap
  obtain ⟨G, hG⟩ : ∃ k, tagB key id nonce T = k := ⟨_, rfl⟩
  rw [hG] at htg hgs hap
  have TU := Lib.hid htu; have TG := Lib.hid htg; have WH := Lib.hid hwh; have KR := Lib.hid hkr
  obtain ⟨R, hR⟩ : ∃ k, sealB key id nonce body = k := ⟨_, rfl⟩
  rw [hR] at hap ⊢
  have hKl : K.toList.length = 433 := by simpa using hks
  clear htu htg hwh hkr hK hKB hT hG hR hks
  go_enter Try.func27, Try.ntmps27
  go_upto_region 1 with fail
  refine wp_absQ (fun W => Below w.heap.size w W ∧ Blk W w.heap.size BV 51) ⟨by (repeat (first | (with_reducible assumption) | (with_reducible exact Below.refl _ _) | with_reducible apply bl_drewN | with_reducible apply Below.drew | (with_reducible apply bl_alloc; focus (first | (simp; done) | (simp; omega) | omega)) | (with_reducible apply bl_set; focus (first | (simp; done) | (simp; omega) | omega)))), Blk.new _ _ _⟩ (fun W0 V0 => ?_)
  obtain ⟨HB0, B0⟩ := V0
  go_wp2_with (refine wpList_load_row rfl 51 _ rfl w.heap.size rfl 51 _ (0, 0) _ B0.out Try.underlying51 rfl (by rw [hbv]; kernel_rfl) ?_)
  refine (WH.out _).mono ?_
  rintro e W1 ⟨rfl, hb1⟩
  have HB1 := Below.thn HB0 hb1 HB0.size
  have B1 := B0.below hb1
  clear hb1 HB0 B0
  go_upto_region 2 with (refine wpList_put rfl 51 _ _ rfl w.heap.size _ _ 51 rfl rfl B1 (by rw [hsz]; kernel_rfl) (hsz.trans hbv.symm) hone (fun W2 hp2 B2 => ?_))
  (try simp only [Act.put])
  have HB2 := hp2.below (Nat.le_refl _) HB1
  clear hp2 HB1 B1
  have hr2 := KR.out _ _ B2
  go_wp2_with (refine wpList_load_mid rfl 29 _ rfl w.heap.size 1 rfl _ _ hr2 Try.underlying29 rfl (by rw [hKl]; kernel_rfl) ?_)
  refine (by simpa using TU.out _ : Calls Try.prog 19 #[.agg K.toList.toArray, .int .u64 (nonce : Int), .string body] _ _).mono ?_
  rintro e W3 ⟨rfl, hb3⟩
  have HB3 := Below.thn HB2 hb3 HB2.size
  have B3 := B2.below hb3
  clear hb3 HB2 B2 hr2
  go_wp2_with (refine wpList_load_row rfl 51 _ rfl w.heap.size rfl 51 _ (0, 0) _ B3.out Try.underlying51 rfl (by rw [hsz]; kernel_rfl) ?_)
  refine (TG.out _).mono ?_
  rintro e W4 ⟨rfl, hb4⟩
  have HB4 := Below.thn HB3 hb4 HB3.size
  clear hb4 HB3 B3
  go_wp2_with fail
  go_ret
  exact ⟨rfl, HB4⟩
theorem seal_any (key body : ByteArray) (id nonce : Nat) (hi : id ≤ 18446744073709551615) (hn : nonce ≤ 18446744073709551615) (hb : body.size ≤ 3000) (w : World) :
    Calls Try.prog 27 #[.agg (boxK key), .int .u64 (id : Int), .int .u64 (nonce : Int), .string body] w fun e w' => e = .returned (.string (sealB key id nonce body)) ∧ Below w.heap.size w w' :=
  seal_gen (boxK key) key body (boxK_size key) (swhole_any key) id nonce hi hn hb w
end Go.Proofs.Ytkblkdojmfgneaa

namespace Go.Proofs.Ytkblkdojmfgneaa
open Go.RowKit

theorem ob_short (key : ByteArray) (id nonce : Nat) (s : ByteArray) (h : s.size < 16) : openB key id nonce s = (⟨#[]⟩, 3) := by unfold openB; rw [if_pos h]
theorem ob_ok (key : ByteArray) (id nonce m : Nat) (s : ByteArray) (h : ¬ s.size < 16) (hm : s.size - 16 = m) (he : tagB key id nonce (s.extract 0 m) = s.extract m s.size) : openB key id nonce s = (turnB key nonce (s.extract 0 m), 0) := by unfold openB; rw [if_neg h, hm, if_pos he]
theorem ob_no (key : ByteArray) (id nonce m : Nat) (s : ByteArray) (h : ¬ s.size < 16) (hm : s.size - 16 = m) (he : ¬ tagB key id nonce (s.extract 0 m) = s.extract m s.size) : openB key id nonce s = (⟨#[]⟩, 8) := by unfold openB; rw [if_neg h, hm, if_neg he]
set_option maxHeartbeats 8000000 in
set_option maxRecDepth 20000 in
theorem open_gen (BV : Array Value) (key s : ByteArray) (hbv : BV.size = 435) (hwh : ∀ W, Calls Try.prog 69 #[.agg BV] W fun e w' => e = .returned (.agg (boxK key)) ∧ Below W.heap.size W w') (id nonce : Nat) (hi : id ≤ 18446744073709551615) (hn : nonce ≤ 18446744073709551615) (hs : s.size ≤ 3000) (w : World) :
    Calls Try.prog 29 #[.agg BV, .int .u64 (id : Int), .int .u64 (nonce : Int), .string s] w fun e w' => e = .returned (.tuple #[.string (openB key id nonce s).1, .int .i64 ((openB key id nonce s).2 : Nat)]) ∧ Below w.heap.size w w' := by
  by_cases h16 : s.size < 16
  · have hi16 : (s.size : Int) < 16 := by omega
    rw [ob_short key id nonce s h16]
    clear h16
    go_enter Try.func29, Try.ntmps29
    go_wp2_with fail
    go_ret2
    exact ⟨rfl, by (repeat (first | (with_reducible assumption) | (with_reducible exact Below.refl _ _) | with_reducible apply bl_drewN | with_reducible apply Below.drew | (with_reducible apply bl_alloc; focus (first | (simp; done) | (simp; omega) | omega)) | (with_reducible apply bl_set; focus (first | (simp; done) | (simp; omega) | omega))))⟩
  · have hi16 : ¬ (s.size : Int) < 16 := by omega
    obtain ⟨m, hm⟩ : ∃ m, s.size - 16 = m := ⟨_, rfl⟩
    have hmi : (s.size : Int) - 16 = (m : Int) := by omega
    have hml : (m : Int) ≤ (s.size : Int) := by omega
    have hmn : m ≤ s.size := by omega
    have hok := ob_ok key id nonce m s h16 hm
    have hno := ob_no key id nonce m s h16 hm
    obtain ⟨r, hr⟩ : ∃ r, openB key id nonce s = r := ⟨_, rfl⟩
    rw [hr] at hok hno ⊢
    have hTs : (s.extract 0 m).size = m := by rw [sz_ext]; omega
    have hUs : (s.extract m s.size).size = 16 := by rw [sz_ext]; omega
    obtain ⟨T, hT⟩ : ∃ t, s.extract 0 m = t := ⟨_, rfl⟩
    obtain ⟨U, hU⟩ : ∃ t, s.extract m s.size = t := ⟨_, rfl⟩
    rw [hT] at hok hno hTs; rw [hU] at hok hno hUs
    have hTi : (T.size : Int) = (m : Int) := by omega
    have htg := fun W => tag_any key T id nonce hi hn (by omega) W
    have hgs := tagB_size key id nonce T
    have htu := fun W => cturn_any (encK key) nonce T (encK_len key) hn (by omega) W
    rw [show (⟨(turnS (encK key) nonce T.data.toList).toArray⟩ : ByteArray) = turnB key nonce T from rfl] at htu
    have hsz := boxK_size key
    have hone := boxK_one key
    have hks := kc_size key
    obtain ⟨K, hK⟩ : ∃ k, (kcells (keysN (encK key) 10)).toArray = k := ⟨_, rfl⟩
    have hkr := fun (W : World) (b : Nat) (B : Blk W b (boxK key) 51) => xcells_range _ _ B
    rw [hK] at hkr hks
    obtain ⟨KB, hKB⟩ : ∃ k, boxK key = k := ⟨_, rfl⟩
    rw [hKB] at hsz hone hwh hkr
    rw [hKB] at htg
    rw [hK] at htu
    obtain ⟨G, hG⟩ : ∃ k, tagB key id nonce T = k := ⟨_, rfl⟩
    rw [hG] at htg hgs hok hno
    obtain ⟨V, hV⟩ : ∃ k, turnB key nonce T = k := ⟨_, rfl⟩
    rw [hV] at htu hok
    have hsm := fun W => same_any G U W (by omega) (by omega)
    have TU := Lib.hid htu; have TG := Lib.hid htg; have WH := Lib.hid hwh; have KR := Lib.hid hkr; have SM := Lib.hid hsm; have OK := Lib.hid hok; have NO := Lib.hid hno
    have hKl : K.toList.length = 433 := by simpa using hks
    clear htu htg hwh hkr hsm hok hno hK hKB hG hV hks hTs hUs hgs hm h16 hr
    go_enter Try.func29, Try.ntmps29
    go_upto_region 1 with fail
    refine wp_absQ (fun W => Below w.heap.size w W ∧ Blk W w.heap.size BV 51) ⟨by (repeat (first | (with_reducible assumption) | (with_reducible exact Below.refl _ _) | with_reducible apply bl_drewN | with_reducible apply Below.drew | (with_reducible apply bl_alloc; focus (first | (simp; done) | (simp; omega) | omega)) | (with_reducible apply bl_set; focus (first | (simp; done) | (simp; omega) | omega)))), Blk.new _ _ _⟩ (fun W0 V0 => ?_)
    obtain ⟨HB0, B0⟩ := V0
    go_wp2_with (refine wpList_load_row rfl 51 _ rfl w.heap.size rfl 51 _ (0, 0) _ B0.out Try.underlying51 rfl (by rw [hbv]; kernel_rfl) ?_)
    refine (WH.out _).mono ?_
    rintro e W1 ⟨rfl, hb1⟩
    have HB1 := Below.thn HB0 hb1 HB0.size
    have B1 := B0.below hb1
    clear hb1 HB0 B0
    go_upto_region 4 with (refine wpList_put rfl 51 _ _ rfl w.heap.size _ _ 51 rfl rfl B1 (by rw [hsz]; kernel_rfl) (hsz.trans hbv.symm) hone (fun W2 hp2 B2 => ?_))
    (try simp only [Act.put])
    have HB2 := hp2.below (Nat.le_refl _) HB1
    clear hp2 HB1 B1
    go_wp2_with fail
    refine wp_region_typed 10 (fun k => match k with  | _ => []) (fun k => match k with  | _ => false) (fun k => match k with | 0 => some ⟨(Unit), (()), (fun _ => .agg KB), (fun _ _ => True), (fun _ _ _ h _ => h)⟩ | 4 => some ⟨(Unit), (()), (fun _ => .string G), (fun _ _ => True), (fun _ _ _ h _ => h)⟩ | 9 => some ⟨(Unit), (()), (fun _ => .bool (decide (G = U))), (fun _ _ => True), (fun _ _ _ h _ => h)⟩ | _ => none) (by kernel_rfl) (by kernel_rfl) (by intro d0 v0 c0 a0 w0 h0; first | (cases d0 <;> exact h0) | exact hP _ _ _ _ _ h0) ?_
    rw [show List.range 10 = [0, 1, 2, 3, 4, 5, 6, 7, 8, 9] from rfl]
    refine ty_rel rfl rfl _ rfl rfl (fun wq hq hk => ?_) ?_
    · exact rel_load_blk _ _ rfl w.heap.size rfl KB _ (B2.gr hq) _ Try.underlying51 rfl (by rw [hsz]; kernel_rfl) (.mk (Below.refl _ _) () rfl trivial)
    rintro ⟨⟩
    (try simp only [Act.put, List.setIfInBounds_toArray, List.set_cons_zero, List.set_cons_succ])
    first
      | (refine ty_skip rfl rfl ?_; (try simp only [Act.put, List.setIfInBounds_toArray, List.set_cons_zero, List.set_cons_succ]))
      | (refine ty_pure rfl rfl rfl rfl ?_; apply Exists.intro; refine ⟨fun wq hq hk => ?_, ?_⟩
         · simp only [pureAt]; go_simp; (try simp only [↓IntWalk.iteOmega]); (try go_bits); (try simp only [pureUpon]); (first | done | exact ⟨rfl, rfl⟩ | exact ⟨trivial, rfl⟩ | rfl)
         (try simp only [Act.put, List.setIfInBounds_toArray, List.set_cons_zero, List.set_cons_succ]))
    first
      | (refine ty_skip rfl rfl ?_; (try simp only [Act.put, List.setIfInBounds_toArray, List.set_cons_zero, List.set_cons_succ]))
      | (refine ty_pure rfl rfl rfl rfl ?_; apply Exists.intro; refine ⟨fun wq hq hk => ?_, ?_⟩
         · simp only [pureAt]; go_simp; (try simp only [↓IntWalk.iteOmega]); (try go_bits); (try simp only [pureUpon]); (first | done | exact ⟨rfl, rfl⟩ | exact ⟨trivial, rfl⟩ | rfl)
         (try simp only [Act.put, List.setIfInBounds_toArray, List.set_cons_zero, List.set_cons_succ]))
    first
      | (refine ty_skip rfl rfl ?_; (try simp only [Act.put, List.setIfInBounds_toArray, List.set_cons_zero, List.set_cons_succ]))
      | (refine ty_pure rfl rfl rfl rfl ?_; apply Exists.intro; refine ⟨fun wq hq hk => ?_, ?_⟩
         · simp only [pureAt]; go_simp; (try simp only [↓IntWalk.iteOmega]); (try go_bits); (try simp only [pureUpon]); (first | done | exact ⟨rfl, rfl⟩ | exact ⟨trivial, rfl⟩ | rfl)
         (try simp only [Act.put, List.setIfInBounds_toArray, List.set_cons_zero, List.set_cons_succ]))
    refine ty_rel rfl rfl _ rfl rfl (fun wq hq hk => ?_) ?_
    · simp only [relAt]; go_simp; (try simp only [relUpon]); (go_at_call 70; refine (TG.out _).mono ?_; rintro e w9 ⟨rfl, hb9⟩; exact ⟨_, rfl, .mk hb9 () rfl trivial⟩)
    rintro ⟨⟩
    (try simp only [Act.put, List.setIfInBounds_toArray, List.set_cons_zero, List.set_cons_succ])
    first
      | (refine ty_skip rfl rfl ?_; (try simp only [Act.put, List.setIfInBounds_toArray, List.set_cons_zero, List.set_cons_succ]))
      | (refine ty_pure rfl rfl rfl rfl ?_; apply Exists.intro; refine ⟨fun wq hq hk => ?_, ?_⟩
         · simp only [pureAt]; go_simp; (try simp only [↓IntWalk.iteOmega]); (try go_bits); (try simp only [pureUpon]); (first | done | exact ⟨rfl, rfl⟩ | exact ⟨trivial, rfl⟩ | rfl)
         (try simp only [Act.put, List.setIfInBounds_toArray, List.set_cons_zero, List.set_cons_succ]))
    first
      | (refine ty_skip rfl rfl ?_; (try simp only [Act.put, List.setIfInBounds_toArray, List.set_cons_zero, List.set_cons_succ]))
      | (refine ty_pure rfl rfl rfl rfl ?_; apply Exists.intro; refine ⟨fun wq hq hk => ?_, ?_⟩
         · simp only [pureAt]; go_simp; (try simp only [↓IntWalk.iteOmega]); (try go_bits); (try simp only [pureUpon]); (first | done | exact ⟨rfl, rfl⟩ | exact ⟨trivial, rfl⟩ | rfl)
         (try simp only [Act.put, List.setIfInBounds_toArray, List.set_cons_zero, List.set_cons_succ]))
    first
      | (refine ty_skip rfl rfl ?_; (try simp only [Act.put, List.setIfInBounds_toArray, List.set_cons_zero, List.set_cons_succ]))
      | (refine ty_pure rfl rfl rfl rfl ?_; apply Exists.intro; refine ⟨fun wq hq hk => ?_, ?_⟩
         · simp only [pureAt]; go_simp; (try simp only [↓IntWalk.iteOmega]); (try go_bits); (try simp only [pureUpon]); (first | done | exact ⟨rfl, rfl⟩ | exact ⟨trivial, rfl⟩ | rfl)
         (try simp only [Act.put, List.setIfInBounds_toArray, List.set_cons_zero, List.set_cons_succ]))
    first
      | (refine ty_skip rfl rfl ?_; (try simp only [Act.put, List.setIfInBounds_toArray, List.set_cons_zero, List.set_cons_succ]))
      | (refine ty_pure rfl rfl rfl rfl ?_; apply Exists.intro; refine ⟨fun wq hq hk => ?_, ?_⟩
         · simp only [pureAt]; go_simp; (try simp only [↓IntWalk.iteOmega]); (try go_bits); (try simp only [pureUpon]); (first | done | exact ⟨rfl, rfl⟩ | exact ⟨trivial, rfl⟩ | rfl)
         (try simp only [Act.put, List.setIfInBounds_toArray, List.set_cons_zero, List.set_cons_succ]))
    refine ty_rel rfl rfl _ rfl rfl (fun wq hq hk => ?_) ?_
    · simp only [relAt]; go_simp; (try simp only [relUpon]); (go_at_call 73; refine (SM.out _).mono ?_; rintro e w9 ⟨rfl, hb9⟩; exact ⟨_, rfl, .mk hb9 () rfl trivial⟩)
    rintro ⟨⟩
    (try simp only [Act.put, List.setIfInBounds_toArray, List.set_cons_zero, List.set_cons_succ])
    refine ty_nil ?_
    simp only [List.drop_succ_cons, List.drop_zero]
    intro W3 hw3 hΓ
    have HB3 := Below.thn HB2 hw3.out HB2.size
    have B3 := B2.gr hw3
    clear hΓ hw3 HB2 B2
    by_cases he : G = U
    · have hd : decide (G = U) = true := by simpa using he
      have hr := Lib.hid (OK.out he)
      rw [hd]
      clear hd he
      go_upto_region 7 with fail
      have hr3 := KR.out _ _ B3
      go_wp2_with (refine wpList_load_mid rfl 29 _ rfl w.heap.size 1 rfl _ _ hr3 Try.underlying29 rfl (by rw [hKl]; kernel_rfl) ?_)
      refine (by simpa using TU.out _ : Calls Try.prog 19 #[.agg K.toList.toArray, .int .u64 (nonce : Int), .string T] _ _).mono ?_
      rintro e W4 ⟨rfl, hb4⟩
      have HB4 := Below.thn HB3 hb4 HB3.size
      go_wp2_with fail
      go_ret2
      exact ⟨by rw [hr.out]; rfl, HB4⟩
    · have hd : decide (G = U) = false := by simpa using he
      have hr := Lib.hid (NO.out he)
      rw [hd]
      clear hd he
      go_wp2_with fail
      go_ret2
      exact ⟨by rw [hr.out]; rfl, HB3⟩
theorem open_any (key s : ByteArray) (id nonce : Nat) (hi : id ≤ 18446744073709551615) (hn : nonce ≤ 18446744073709551615) (hs : s.size ≤ 3000) (w : World) :
    Calls Try.prog 29 #[.agg (boxK key), .int .u64 (id : Int), .int .u64 (nonce : Int), .string s] w fun e w' => e = .returned (.tuple #[.string (openB key id nonce s).1, .int .i64 ((openB key id nonce s).2 : Nat)]) ∧ Below w.heap.size w w' :=
  open_gen (boxK key) key s (boxK_size key) (swhole_any key) id nonce hi hn hs w
theorem zbox_size : Try.zeroCells51.size = 435 := by kernel_rfl
theorem zbox_one : Try.zeroCells51.all (·.oneCell') = true := by kernel_rfl
theorem zbox_0 : Try.zeroCells51[0]? = some (.bool false) := by kernel_rfl
set_option maxHeartbeats 8000000 in
set_option maxRecDepth 20000 in
theorem snew_bad (key : ByteArray) (w : World) (h : key.size = 0 ∨ 64 < key.size) : Calls Try.prog 26 #[.string key] w fun e w' => e = .returned (.tuple #[.agg Try.zeroCells51, .int .i64 2]) ∧ Below w.heap.size w w' := by
  have hone := zbox_one
  have hzs := zbox_size
  rcases h with h | h
  · have hne : key.toList = [] := by
      rw [ba_toList]; exact List.eq_nil_of_length_eq_zero (by rw [← ba_size]; exact h)
    have hne2 : key.toList.isEmpty = true := by rw [hne]; rfl
    go_enter Try.func26, Try.ntmps26
    go_upto_region 1 with fail
    refine wp_absQ (fun W => Below w.heap.size w W ∧ Blk W w.heap.size Try.zeroCells51 51) ⟨by (repeat (first | (with_reducible assumption) | (with_reducible exact Below.refl _ _) | with_reducible apply bl_drewN | with_reducible apply Below.drew | (with_reducible apply bl_alloc; focus (first | (simp; done) | (simp; omega) | omega)) | (with_reducible apply bl_set; focus (first | (simp; done) | (simp; omega) | omega)))), Blk.new _ _ _⟩ (fun W0 V0 => ?_)
    obtain ⟨HB0, Z0⟩ := V0
    go_wp2_with (refine wpList_put rfl 51 _ _ rfl w.heap.size _ Try.zeroCells51 51 rfl rfl Z0 (by rw [zbox_size]; kernel_rfl) rfl zbox_one (fun W9 hp9 B9 => ?_))
    all_goals
      refine bodyPost_ret (v := .tuple #[.agg Try.zeroCells51, .int .i64 2]) ?_ rfl ⟨rfl, hp9.below (Nat.le_refl _) HB0⟩
      exact results_cell_tmp (Try.results26) _ _ w.heap.size 51 _ (0, 0) _ _ rfl rfl B9.out Try.underlying51 rfl (by rw [zbox_size]; kernel_rfl)
  · have hne : ¬ key.toList = [] := fun h5 => by
      rw [ba_toList] at h5
      have : key.data.toList.length = 0 := by rw [h5]; rfl
      rw [← ba_size] at this
      omega
    have hne2 : key.toList.isEmpty = false := by
      cases h5 : key.toList with
      | nil => exact absurd h5 hne
      | cons a r => rfl
    have h64 : (64 : Int) < (key.size : Int) := by omega
    go_enter Try.func26, Try.ntmps26
    go_upto_region 1 with fail
    refine wp_absQ (fun W => Below w.heap.size w W ∧ Blk W w.heap.size Try.zeroCells51 51) ⟨by (repeat (first | (with_reducible assumption) | (with_reducible exact Below.refl _ _) | with_reducible apply bl_drewN | with_reducible apply Below.drew | (with_reducible apply bl_alloc; focus (first | (simp; done) | (simp; omega) | omega)) | (with_reducible apply bl_set; focus (first | (simp; done) | (simp; omega) | omega)))), Blk.new _ _ _⟩ (fun W0 V0 => ?_)
    obtain ⟨HB0, Z0⟩ := V0
    go_wp2_with (refine wpList_put rfl 51 _ _ rfl w.heap.size _ Try.zeroCells51 51 rfl rfl Z0 (by rw [zbox_size]; kernel_rfl) rfl zbox_one (fun W9 hp9 B9 => ?_))
    all_goals
      refine bodyPost_ret (v := .tuple #[.agg Try.zeroCells51, .int .i64 2]) ?_ rfl ⟨rfl, hp9.below (Nat.le_refl _) HB0⟩
      exact results_cell_tmp (Try.results26) _ _ w.heap.size 51 _ (0, 0) _ _ rfl rfl B9.out Try.underlying51 rfl (by rw [zbox_size]; kernel_rfl)
set_option maxHeartbeats 4000000 in
set_option maxRecDepth 20000 in
theorem swhole_zero (w : World) : Calls Try.prog 69 #[.agg Try.zeroCells51] w fun e w' => e = .returned (.agg (boxK ⟨#[0]⟩)) ∧ Below w.heap.size w w' := by
  have hnw := fun W => snew_any ⟨#[0]⟩ W (by decide) (by decide)
  have hsz := boxK_size ⟨#[0]⟩
  have hone := boxK_one ⟨#[0]⟩
  obtain ⟨KB, hKB⟩ : ∃ k, boxK ⟨#[0]⟩ = k := ⟨_, rfl⟩
  rw [show xcells (kcells (keysN (encK ⟨#[0]⟩) 10)).toArray (macK ⟨#[0]⟩) = KB from hKB] at hnw
  rw [hKB] at hsz hone ⊢
  have NW := Lib.hid hnw
  have hz0 := zbox_0
  have hzs := zbox_size
  clear hnw hKB
  go_enter Try.func69, Try.ntmps69
  go_upto_region 1 with fail
  refine wp_absQ (fun W => Below w.heap.size w W ∧ Blk W w.heap.size Try.zeroCells51 51 ∧ Blk W (w.heap.size + 1) Try.zeroCells51 51) ⟨by (repeat (first | (with_reducible assumption) | (with_reducible exact Below.refl _ _) | with_reducible apply bl_drewN | with_reducible apply Below.drew | (with_reducible apply bl_alloc; focus (first | (simp; done) | (simp; omega) | omega)) | (with_reducible apply bl_set; focus (first | (simp; done) | (simp; omega) | omega)))), by (repeat (first | (with_reducible assumption) | (with_reducible apply Blk.new'; (first | (with_reducible rfl) | (simp; done))) | with_reducible apply Blk.alloc | with_reducible apply Blk.set | ((with_reducible apply Blk.set_ne); focus (first | (simp; done) | (simp; omega))) | with_reducible apply Blk.drewN | with_reducible apply Blk.drew)), by (repeat (first | (with_reducible assumption) | (with_reducible apply Blk.new'; (first | (with_reducible rfl) | (simp; done))) | with_reducible apply Blk.alloc | with_reducible apply Blk.set | ((with_reducible apply Blk.set_ne); focus (first | (simp; done) | (simp; omega))) | with_reducible apply Blk.drewN | with_reducible apply Blk.drew))⟩ (fun W1 V1 => ?_)
  obtain ⟨HB1, K1, Z1⟩ := V1
  have c1 := K1.cell 0
  rw [hz0] at c1
  go_wp2_with fail
  refine (NW.out _).mono ?_
  rintro e W2 ⟨rfl, hb2⟩
  have HB2 := Below.thn HB1 hb2 HB1.size
  have K2 := K1.below hb2
  have Z2 := Z1.below hb2
  clear hb2 HB1 K1 Z1 c1 hz0
  go_upto_region 3 with (refine wpList_put rfl 51 _ _ rfl w.heap.size _ _ 51 rfl rfl K2 (by rw [hsz]; kernel_rfl) (hsz.trans hzs.symm) hone (fun W3 hp3 K3 => ?_))
  (try simp only [Act.put])
  have HB3 := hp3.below (Nat.le_refl _) HB2
  have Z3 := hp3.blk (q := w.heap.size + 1) (by omega) Z2
  clear hp3 HB2 K2 Z2
  go_wp2_with (first | (refine wpList_load_row rfl 51 _ rfl w.heap.size rfl 51 _ (0, 0) _ K3.out Try.underlying51 rfl (by rw [hsz]; kernel_rfl) ?_) | (refine wpList_put rfl 51 _ _ rfl (w.heap.size + 1) _ _ 51 rfl rfl Z3 (by rw [hsz]; kernel_rfl) (hsz.trans hzs.symm) hone (fun W9 hp9 B9 => ?_)))
  refine bodyPost_ret (v := .agg KB) ?_ rfl ⟨rfl, hp9.below (by omega) HB3⟩
  exact results_cell_row (Try.results69) _ _ (w.heap.size + 1) 51 _ (0, 0) _ rfl B9.out Try.underlying51 rfl (by rw [hsz]; kernel_rfl)
set_option maxHeartbeats 4000000 in
theorem nonce_any (seq : Nat) (down : Bool) (w : World) (hs : seq ≤ 18446744073709551615) : Calls Try.prog 31 #[.int .u64 (seq : Int), .bool down] w fun e w' => e = .returned (.tuple #[.int .u64 ((if 9223372036854775807 < seq then 0 else if down then seq + 9223372036854775808 else seq : Nat) : Int), .int .i64 (if 9223372036854775807 < seq then 15 else 0)]) ∧ w' = w := by
  by_cases h : 9223372036854775807 < seq
  · have hi : (9223372036854775807 : Int) < (seq : Int) := by omega
    rw [if_pos h, if_pos h]
    go_enter Try.func31, Try.ntmps31
    go_wp2_with fail
    go_ret2
    exact ⟨rfl, rfl⟩
  · have hi : ¬ (9223372036854775807 : Int) < (seq : Int) := by omega
    rw [if_neg h, if_neg h]
    have ho := or_top seq (by omega)
    cases down with
    | false =>
      go_enter Try.func31, Try.ntmps31
      go_wp2_with fail
      go_ret2
      exact ⟨rfl, rfl⟩
    | true =>
      rw [if_pos rfl]
      obtain ⟨v, hv⟩ : ∃ v, seq + 9223372036854775808 = v := ⟨_, rfl⟩
      rw [hv] at ho ⊢
      clear hv
      go_enter Try.func31, Try.ntmps31
      go_wp2_with fail
      go_ret2
      exact ⟨rfl, rfl⟩
theorem andnot_top (n : Nat) (h : n < 18446744073709551616) : bits .andNot .u64 (n : Int) 9223372036854775808 = ((n % 9223372036854775808 : Nat) : Int) := by
  have h5 := u64_andNot_nat n 9223372036854775808 h (by decide)
  rw [show ((9223372036854775808 : Nat) : Int) = 9223372036854775808 from rfl] at h5
  rw [h5]
  congr 1
  rw [show (18446744073709551615 - 9223372036854775808 : Nat) = 2 ^ 63 - 1 by decide, Nat.and_two_pow_sub_one_eq_mod]
set_option maxHeartbeats 4000000 in
theorem seq_any (n : Nat) (w : World) (hn : n ≤ 18446744073709551615) : Calls Try.prog 32 #[.int .u64 (n : Int)] w fun e w' => e = .returned (.tuple #[.int .u64 ((n % 9223372036854775808 : Nat) : Int), .bool (decide (9223372036854775808 ≤ n))]) ∧ w' = w := by
  have h1 := and_top n (by omega)
  have h2 := andnot_top n (by omega)
  obtain ⟨m, hm⟩ : ∃ m, n % 9223372036854775808 = m := ⟨_, rfl⟩
  rw [hm] at h2 ⊢
  clear hm
  by_cases h : 9223372036854775808 ≤ n
  · rw [if_neg (by omega)] at h1
    rw [show decide (9223372036854775808 ≤ n) = true by simpa using h]
    go_enter Try.func32, Try.ntmps32
    go_wp2_with fail
    go_ret2
    exact ⟨rfl, rfl⟩
  · rw [if_pos (by omega)] at h1
    rw [show decide (9223372036854775808 ≤ n) = false by simpa using h]
    go_enter Try.func32, Try.ntmps32
    go_wp2_with fail
    go_ret2
    exact ⟨rfl, rfl⟩
end Go.Proofs.Ytkblkdojmfgneaa
