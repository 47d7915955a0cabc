/- PoolOwners: the walk. -/
import Derived.Test.YtkfgbaieghlhkaaPoolFillsW
import Derived.Test.YtkfgbaieghlhkaaShelf
namespace Go.Proofs.Ytkfgbaieghlhkaa
open Go.RowKit

theorem repeatL_zero (n : Nat) : Lib.repeatL [(0 : UInt8)] n = List.replicate n 0 := by
  induction n with
  | zero => rfl
  | succ n ih => rw [Lib.repeatL, ih, List.replicate_succ]; rfl
theorem repeat_zero (n : Nat) (w : World) (hn : n ≤ 100000) :
    Calls Try.prog 30 #[.string ⟨#[0]⟩, .int .i64 n] w fun e w' => e = .returned (.string ⟨(List.replicate n 0).toArray⟩) ∧ Below w.heap.size w w' := by
  have := Try.strings_Repeat ⟨#[0]⟩ n w (by omega) (by rw [show (⟨#[0]⟩ : ByteArray).size = 1 from rfl]; omega)
  rwa [show (⟨#[0]⟩ : ByteArray).data.toList = [0] from rfl, repeatL_zero] at this
def zraw : ByteArray := rawOf ⟨#[]⟩
theorem repeat_512 (w : World) : Calls Try.prog 30 #[.string ⟨#[0]⟩, .int .i64 512] w fun e w' => e = .returned (.string zraw) ∧ Below w.heap.size w w' := repeat_zero 512 w (by omega)

/-- Texts in a row. -/
structure StrsAt (w : World) (b off len : Nat) (ss : List ByteArray) : Prop where
  lt : 0 < len → b < w.heap.size
  cell : ∀ j, j < len → w.cell? ⟨b, off + j, none⟩ = some (.string (ss.getD j ⟨#[]⟩))
  small : ∀ j, j < len → (ss.getD j ⟨#[]⟩).size ≤ 140737488355328
theorem StrsAt.below {w w' : World} {b off len : Nat} {bs : List ByteArray} (h : StrsAt w b off len bs) (g : Below w.heap.size w w') : StrsAt w' b off len bs :=
  ⟨fun h0 => Nat.lt_of_lt_of_le (h.lt h0) g.size, fun j hj => (g.cell (p := ⟨b, off + j, none⟩) (h.lt (by omega))).trans (h.cell j hj), h.small⟩

def AllFree (l : List Buf) (m : Nat) : Prop := ∀ i, i < m → l.getD i default = ⟨false, ⟨#[]⟩⟩
theorem AllFree.fresh (m : Nat) : AllFree (fresh m) m := fun i hi => fresh_get m i hi
theorem AllFree.again {l : List Buf} {m : Nat} (h : AllFree l m) (hl : l.length = m) (hm : 0 < m) (x y : Buf) : AllFree (((l.set 0 x).set 0 y).set 0 ⟨false, ⟨#[]⟩⟩) m := by
  intro i hi
  by_cases e : 0 = i
  · subst e; rw [getD_set_self _ _ _ (by rw [List.length_set, List.length_set]; omega)]
  · rw [getD_set_other _ _ _ _ e, getD_set_other _ _ _ _ e, getD_set_other _ _ _ _ e]; exact h i hi
theorem AllFree.freeN {l : List Buf} {m : Nat} (h : AllFree l m) : freeN l m = m := by
  have := heldL_first l 0 m (fun i hi => by rw [h i hi]; rfl)
  unfold Go.Proofs.Ytkfgbaieghlhkaa.freeN; omega

set_option maxHeartbeats 4000000 in
set_option maxRecDepth 20000 in
theorem owners_walk (x b off len cap : Nat) (ao : Option Addr) (ss : List ByteArray) (w : World) (hx : x ≤ 255) (hl : len ≤ 20) (hao : 0 < len → ao = some ⟨b, off, none⟩) (hss : StrsAt w b off len ss) :
    Calls Try.prog 8 #[.int .u8 x, .slice ao len cap] w fun e w' => e = .returned (.bool true) ∧ Below w.heap.size w w' := by
  have g3 : ¬ (20 : Int) < len := by omega
  obtain ⟨r, hr⟩ : ∃ r, r = x % 4 := ⟨_, rfl⟩
  have hr1 : (x : Int) % 4 = (r : Int) := by omega
  have hr2 : (x : Int).tmod 4 = (r : Int) := by rw [hr]; rfl
  have hr4 : r < 4 := by omega
  have hm1 : (1 : Int) + r = ((1 + r : Nat) : Int) := by omega
  obtain ⟨m, hm⟩ : ∃ m, m = 1 + r := ⟨_, rfl⟩
  have hm2 : (1 : Int) + r = (m : Int) := by omega
  have hm3 : 1 ≤ m ∧ m ≤ 4 := by omega
  clear hr hm1 hm
  go_enter Try.func8, Try.ntmps8
  go_wp2_with fail
  refine (awake08 _).mono ?_
  rintro e w1 ⟨rfl, HB⟩
  have HBs := HB.size
  go_wp2_with fail
  refine (new_any m _ (by omega) (by omega)).mono ?_
  rintro e w2 ⟨pb, B, rfl, P, hpb, hB, hb⟩
  have HB2 := Below.thn HB hb HBs
  have HBs2 := HB2.size
  have hpb' : w.heap.size ≤ pb := by omega
  have hB' : w.heap.size ≤ B := by omega
  clear hb HB HBs hpb hB
  go_wp2_with fail
  go_loopg [34] len (fun g t34 wr => ∃ (k : Nat) (l : List Buf), t34 = .int .i64 k ∧ k + g = len ∧ PoolAt wr pb B m l k ∧ Below w.heap.size w wr ∧ AllFree l m)
  case atStart => exact ⟨0, fresh m, rfl, by omega, P, HB2, AllFree.fresh m⟩
  case round =>
    clear P HB2 HBs2
    obtain ⟨k, l, rfl, hk, P, HB, hA⟩ := hrel
    have HBs := HB.size
    have HK := Lib.hid hk
    have hlen := P.len
    cases gk with
    | zero =>
      have hk' : ¬ (k : Int) < len := by omega
      have hkn : k = len := by omega
      clear hk
      have hf := hA.freeN
      have hm0 := P.most
      obtain rfl := hkn
      clear hlen
      go_wp2_with fail
      refine (freeN_any pb B m k l _ P).mono ?_
      rintro e w5 ⟨rfl, hb⟩
      rw [hf]
      have HB5 := Below.thn HB hb HBs
      have HBs5 := HB5.size
      have P5 := P.below hb
      clear HB HBs P hb
      go_wp2_with fail
      refine (ever_any pb B m k l _ P5).mono ?_
      rintro e w6 ⟨rfl, hb⟩
      go_wp2
      go_ret
      exact ⟨rfl, Below.thn HB5 hb HBs5⟩
    | succ g =>
      have hk' : (k : Int) < len := by omega
      have hkn : k < len := by omega
      clear hk
      obtain rfl := hao (by omega)
      have hs2 := hss.below HB
      have hsc := hs2.cell k hkn
      generalize ss.getD k ⟨#[]⟩ = s at hsc
      clear hs2
      by_cases hbig : 512 < s.size
      · have hbig' : (512 : Int) < s.size := by omega
        go_wp2
        go_ret
        exact ⟨rfl, HB⟩
      · have hbig' : ¬ (512 : Int) < s.size := by omega
        have HA := Lib.hid hA
        have hlm : l.length = m := hlen
        have HL := Lib.hid hlm
        clear hA hlen hlm
        go_wp2_with fail
        refine (get_some pb B m k 0 l ⟨#[]⟩ _ P (by decide) (by omega) (fun j hj => by omega) (by rw [HA.out 0 (by omega)]) (by omega)).mono ?_
        rintro e w3 ⟨rfl, T, P3⟩
        have HB3 := HB.trans (T.below HBs hpb' hB')
        have HBs3 := HB3.size
        clear T P HB HBs
        have h01 : ((l.set 0 ⟨true, ⟨#[]⟩⟩).getD 0 default) = ⟨true, ⟨#[]⟩⟩ := getD_set_self _ _ _ (by rw [HL.out]; omega)
        have H01 := Lib.hid h01
        have HL1 : Hid ((l.set 0 ⟨true, ⟨#[]⟩⟩).length = m) := Lib.hid (by rw [List.length_set]; exact HL.out)
        have HAll := fun y => HA.out.again HL.out (by omega) ⟨true, ⟨#[]⟩⟩ y
        clear h01 HA HL
        obtain ⟨l1, hl1⟩ : ∃ l1, l.set 0 ⟨true, ⟨#[]⟩⟩ = l1 := ⟨_, rfl⟩
        rw [hl1] at P3 H01 HL1
        simp only [hl1] at HAll
        have HALL := Lib.hid HAll
        clear hl1 HAll
        go_wp2_with fail
        refine (raw_ok pb B m (k + 1) 0 l1 ⟨#[]⟩ _ P3 (by omega) (by rw [H01.out])).mono ?_
        rintro e w4 ⟨rfl, hb⟩
        have HB4 := Below.thn HB3 hb HBs3
        have HBs4 := HB4.size
        have P4 := P3.below hb
        clear HB3 HBs3 P3 hb
        go_wp2_with fail
        refine (repeat_512 _).mono ?_
        rintro e w5 ⟨rfl, hb⟩
        have HB5 := Below.thn HB4 hb HBs4
        have HBs5 := HB5.size
        have P5 := P4.below hb
        clear HB4 HBs4 P4 hb
        have hzz : rawOf ⟨#[]⟩ = zraw := rfl
        go_wp2_with fail
        refine (write_ok pb B m (k + 1) 0 l1 s _ P5 (by omega) (by rw [H01.out]) (by omega)).mono ?_
        rintro e w6 ⟨rfl, T, P6⟩
        have HB6 := HB5.trans (T.below HBs5 hpb' hB')
        have HBs6 := HB6.size
        clear T P5 HB5 HBs5
        have H02 : Hid ((l1.set 0 ⟨true, s⟩).getD 0 default = ⟨true, s⟩) := Lib.hid (getD_set_self _ _ _ (by rw [HL1.out]; omega))
        have HL2 : Hid ((l1.set 0 ⟨true, s⟩).length = m) := Lib.hid (by rw [List.length_set]; exact HL1.out)
        have HALL2 := Lib.hid (HALL.out ⟨true, s⟩)
        clear HALL H01 HL1
        obtain ⟨l2, hl2⟩ : ∃ l2, l1.set 0 ⟨true, s⟩ = l2 := ⟨_, rfl⟩
        rw [hl2] at P6 H02 HL2 HALL2
        clear hl2
        go_wp2_with fail
        refine (read_ok pb B m (k + 1) 0 l2 s _ P6 (by omega) (by rw [H02.out]) (by rw [H02.out])).mono ?_
        rintro e w7 ⟨rfl, hb⟩
        have HB7 := Below.thn HB6 hb HBs6
        have HBs7 := HB7.size
        have P7 := P6.below hb
        clear HB6 HBs6 P6 hb
        go_wp2_with fail
        refine (put_ok pb B m (k + 1) 0 l2 _ P7 (by omega) (by rw [H02.out])).mono ?_
        rintro e w8 ⟨rfl, T, P8⟩
        have HB8 := HB7.trans (T.below HBs7 hpb' hB')
        have HBs8 := HB8.size
        clear T P7 HB7 HBs7
        go_wp2_with fail
        refine (put_bad pb B m (k + 1) 0 (l2.set 0 ⟨false, ⟨#[]⟩⟩) _ P8 (Or.inr (Or.inr ⟨0, rfl, by omega, by rw [HALL2.out 0 (by omega)]⟩))).mono ?_
        rintro e w9 ⟨rfl, hb⟩
        have HB9 := Below.thn HB8 hb HBs8
        have P9 := P8.below hb
        clear HB8 HBs8 P8 hb
        go_wp2_with fail
        go_roundg g
        case rel => exact ⟨k + 1, _, by simp, by have := HK.out; omega, P9, HB9, HALL2.out⟩
        case measure => omega
end Go.Proofs.Ytkfgbaieghlhkaa
