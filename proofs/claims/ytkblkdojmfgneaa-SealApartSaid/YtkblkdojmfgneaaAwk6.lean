/- The law of CTR: awake. -/
import Derived.Test.YtkblkdojmfgneaaCtr4
import Derived.Test.YtkblkdojmfgneaaShaB
namespace Go.Proofs.Ytkblkdojmfgneaa
open Go.RowKit

theorem wp_load_blk {P : Program} {op : Oper} {a : Act} {w : World} {K : Act → World → Prop} {Q : Exit → Act → World → Prop} (ty : TypeId) (x : Operand) (ho : op.op = .load ty x)
    (b : Nat) (hx : a.eval x = .pointer (some ⟨b, 0, none⟩)) (C : Array Value) (t : TypeId) (B : Blk w b C t) (d : TypeDesc)
    (hu : P.underlying ty = some d) (hd : d.isRow = true) (hi : (P.info? ty).map (·.size) = some C.size) (h : K (a.put op.dst (.agg C)) w) : op.wp P a w K Q := by
  refine wp_load_mid ty x ho b 0 hx C.toList d ?_ hu hd (by simpa using hi) (by simpa using h)
  intro j v hv
  rw [Nat.zero_add, B.cell]
  simpa using hv
theorem rep16 (w : World) : Calls Try.prog 24 #[.string ⟨#[107]⟩, .int .i64 16] w fun e w' => e = .returned (.string ⟨(List.replicate 16 (107 : UInt8)).toArray⟩) ∧ Below w.heap.size w w' := by
  have := Try.strings_Repeat ⟨#[107]⟩ 16 w (by omega) (by show 1 * 16 ≤ _; omega)
  rw [show (Lib.repeatL (⟨#[107]⟩ : ByteArray).data.toList 16) = List.replicate 16 107 by kernel_rfl] at this
  exact this
set_option maxHeartbeats 8000000 in
set_option maxRecDepth 20000 in
theorem awake06_any (w : World) : Calls Try.prog 14 #[] w fun e w' => e = .returned (.bool true) ∧ Below w.heap.size w w' := by
  obtain ⟨key, hkey⟩ : ∃ k, List.replicate 16 (107 : UInt8) = k := ⟨_, rfl⟩
  have hk : key.length = 16 := by rw [← hkey]; rfl
  have hrep := fun W => rep16 W
  rw [hkey] at hrep
  have hnw := fun W => new_any ⟨key.toArray⟩ W (by rw [ba_size]; simpa using hk)
  rw [show (⟨key.toArray⟩ : ByteArray).data.toList = key from rfl] at hnw
  have hstr := fun W => stream_any key 1 3 hk (by decide) (by decide) W
  have ht0 := fun W => cturn_any key 1 ⟨#[]⟩ hk (by decide) (by decide) W
  rw [show turnS key 1 (⟨#[]⟩ : ByteArray).data.toList = [] by rfl] at ht0
  have ht3 := fun W => cturn_any key 1 ⟨#[0, 0, 0]⟩ hk (by decide) (by decide) W
  rw [show turnS key 1 (⟨#[0, 0, 0]⟩ : ByteArray).data.toList = streamL key 1 3 from turnS_noughts key 1 3 hk] at ht3
  have hsl := streamL_len key 1 3 hk
  obtain ⟨st, hst⟩ : ∃ k, streamL key 1 3 = k := ⟨_, rfl⟩
  rw [hst] at hstr ht3 hsl
  have hone := kcells_one (keysN key 10)
  have hKs := keysN_size key hk
  obtain ⟨K, hK⟩ : ∃ K, (kcells (keysN key 10)).toArray = K := ⟨_, rfl⟩
  rw [hK] at hnw hstr ht0 ht3 hone hKs
  obtain ⟨S, hS⟩ : ∃ S : ByteArray, (⟨st.toArray⟩ : ByteArray) = S := ⟨_, rfl⟩
  have hSs : S.size = 3 := by rw [← hS, ba_size]; simpa using hsl
  have hSi : (S.size : Int) = 3 := by omega
  rw [hS] at hstr ht3
  obtain ⟨KS, hKS⟩ : ∃ S : ByteArray, (⟨key.toArray⟩ : ByteArray) = S := ⟨_, rfl⟩
  rw [hKS] at hrep hnw
  have H1 := Lib.hid hrep; have H2 := Lib.hid hnw; have H3 := Lib.hid hstr; have H4 := Lib.hid ht0; have H5 := Lib.hid ht3
  clear hrep hnw hstr ht0 ht3 hkey hk hsl hst hK hS hKS
  go_enter Try.func14, Try.ntmps14
  go_wp2_with fail
  refine (H1.out _).mono ?_
  rintro e W1 ⟨rfl, hb⟩
  have HB1 := Below.thn (Below.refl w.heap.size w) hb (Nat.le_refl _)
  have hs1 := HB1.size
  clear hb
  go_wp2_with fail
  refine (H2.out _).mono ?_
  rintro e W2 ⟨rfl, hb⟩
  have HB2 := Below.thn HB1 hb hs1
  have hs2 := HB2.size
  clear hb HB1 hs1
  go_upto_region 2 with (refine wpList_put rfl 29 _ _ rfl W2.heap.size _ _ 29 rfl rfl (Blk.new _ _ _) (by rw [hKs]; kernel_rfl) (hKs.trans zkey_size.symm) hone (fun W3 hp3 K3 => ?_))
  (try simp only [Act.put])
  obtain ⟨b, hb⟩ : ∃ b, W2.heap.size = b := ⟨_, rfl⟩
  have HB3 : Below w.heap.size w W3 := hp3.below (by omega) (by (repeat (first | (with_reducible assumption) | (with_reducible exact Below.refl _ _) | with_reducible apply bl_drewN | with_reducible apply Below.drew | (with_reducible apply bl_alloc; focus (first | (simp; done) | (simp; omega) | omega)) | (with_reducible apply bl_set; focus (first | (simp; done) | (simp; omega) | omega)))))
  rw [hb] at K3 hs2 ⊢
  clear hp3 hb HB2
  go_wp2_with (first | (refine wpList_load_row rfl 29 _ rfl b rfl 29 _ (0, 0) _ K3.out Try.underlying29 rfl (by rw [hKs]; kernel_rfl) ?_))
  refine (H3.out _).mono ?_
  rintro e W4 ⟨rfl, hb⟩
  have HB4 := Below.thn HB3 hb HB3.size
  have K4 := K3.below hb
  clear hb HB3 K3
  go_wp2_with fail
  refine (awake01x_any _).mono ?_
  rintro e W5 ⟨rfl, hb⟩
  have HB5 := Below.thn HB4 hb HB4.size
  have K5 := K4.below hb
  clear hb HB4 K4
  go_wp2_with fail
  refine (awake05x_any _).mono ?_
  rintro e W6 ⟨rfl, hb⟩
  have HB6 := Below.thn HB5 hb HB5.size
  have K6 := K5.below hb
  clear hb HB5 K5
  go_wp2_with fail
  (refine wp_load_blk _ _ rfl b rfl K _ K6 _ Try.underlying29 rfl (by rw [hKs]; kernel_rfl) ?_)
  apply_assumption
  (try simp only [Act.put])
  go_wp2_with fail
  refine (H4.out _).mono ?_
  rintro e W7 ⟨rfl, hb⟩
  have HB7 := Below.thn HB6 hb HB6.size
  have K7 := K6.below hb
  clear hb HB6 K6
  go_wp2_with fail
  (refine wp_load_blk _ _ rfl b rfl K _ K7 _ Try.underlying29 rfl (by rw [hKs]; kernel_rfl) ?_)
  apply_assumption
  (try simp only [Act.put])
  go_wp2_with fail
  refine (H5.out _).mono ?_
  rintro e W8 ⟨rfl, hb⟩
  have HB8 := Below.thn HB7 hb HB7.size
  clear hb HB7 K7
  go_wp2_with fail
  go_ret
  exact ⟨rfl, HB8⟩
set_option maxHeartbeats 4000000 in
theorem awake06x_any (w : World) : Calls Try.prog 67 #[] w fun e w' => e = .returned (.bool true) ∧ Below w.heap.size w w' := by
  go_enter Try.func67, Try.ntmps67
  go_wp2_with fail
  refine (awake06_any _).mono ?_
  rintro e W1 ⟨rfl, hb⟩
  go_wp2_with fail
  go_ret
  exact ⟨rfl, hb⟩
end Go.Proofs.Ytkblkdojmfgneaa
