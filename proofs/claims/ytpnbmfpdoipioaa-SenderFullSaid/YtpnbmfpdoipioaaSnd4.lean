/- IndexFunc, Acked, New, Rule, Set. -/
import Derived.Test.YtpnbmfpdoipioaaSnd3
namespace Go.Proofs.Ytpnbmfpdoipioaa
open Go.RowKit

/-- A sender that memory holds. -/
def SenderAt (w : World) (v : Value) (l : List SSt) (now : ByteArray) (last : Nat) : Prop :=
  ∃ b off cap, v = SV (.slice (some ⟨b, off, none⟩) l.length cap) now last ∧ l.length ≤ cap ∧ cap ≤ maxLen ∧ ListAt w b off l ∧ last ≤ 18446744073709551615 ∧ now.size ≤ 1000
theorem SenderAt.below {w w' : World} {v : Value} {l : List SSt} {now : ByteArray} {last : Nat} (h : SenderAt w v l now last) (g : Below w.heap.size w w') : SenderAt w' v l now last := by
  obtain ⟨b, off, cap, h1, h2, h2', h3, h4⟩ := h
  exact ⟨b, off, cap, h1, h2, h2', h3.below g, h4⟩
theorem sender_of_own {w : World} {base : Nat} {v : Value} {l : List SSt} {now : ByteArray} {last : Nat} (h : w.ownsRow base 70 3 v l.length (sCells l)) (hp : 0 < l.length ∧ l.length ≤ 8) (hs : SmallL l) (h1 : last ≤ 18446744073709551615) (h2 : now.size ≤ 1000) :
    SenderAt w (SV v now last) l now last := by
  obtain ⟨g, c, rfl, hg, L⟩ := list_of_own h hp hs
  refine ⟨g, 0, c, rfl, ?_, ?_, L, h1, h2⟩
  · rcases h.2 with ⟨_, h5⟩ | ⟨_, _, _, h5, _, _, h6, _⟩
    · omega
    · simp only [Value.slice.injEq] at h5; omega
  · rcases h.2 with ⟨_, h5⟩ | ⟨_, _, _, h5, _, _, _, h6, _⟩
    · omega
    · simp only [Value.slice.injEq] at h5; omega

def ackI (l : List SSt) (n : Nat) : Nat := l.findIdx fun s => s.num == n
def ackL (l : List SSt) (n : Nat) : List SSt := if ackI l n < l.length then l.drop (ackI l n) else l
theorem ackI_hit (l : List SSt) (n k : Nat) (hk : k < l.length) (h0 : (l.getD k default).num = n) (h : ∀ j, j < k → (l.getD j default).num ≠ n) : ackI l n = k := by
  have e : ∀ j (hj : j < l.length), l.getD j default = l[j] := fun j hj => by rw [List.getD, List.getElem?_eq_getElem hj]; rfl
  refine (List.findIdx_eq hk).2 ⟨by rw [← e k hk]; simpa using h0, fun j hj => ?_⟩
  rw [← e j (by omega)]
  simpa using h j hj
theorem ackI_miss (l : List SSt) (n : Nat) (h : ∀ j, j < l.length → (l.getD j default).num ≠ n) : ackI l n = l.length := by
  refine List.findIdx_eq_length.2 fun x hx => ?_
  obtain ⟨j, hj, rfl⟩ := List.getElem_of_mem hx
  have e : l.getD j default = l[j] := by rw [List.getD, List.getElem?_eq_getElem hj]; rfl
  have := h j hj
  rw [e] at this
  simpa using this
set_option maxHeartbeats 1000000 in
theorem is_any (a c n : Nat) (s : ByteArray) (nb : Nat) (w : World) (B : Blk w nb #[.int .u64 n] 29) :
    Calls Try.prog 35 #[.agg #[.int .u64 a, .int .u64 c, .string s], .pointer (some ⟨nb, 0, none⟩)] w fun e w' => e = .returned (.bool (decide (a = n))) ∧ Below w.heap.size w w' := by
  have Bc := B.cell; have Bf := B.frozen; have Bl := B.lt
  by_cases h : a = n
  · subst h
    go_enter Try.func35, Try.ntmps35
    go_wp2
    go_ret
    exact ⟨by simp, by (repeat (first | (with_reducible assumption) | (with_reducible exact Below.refl _ _) | with_reducible apply bl_drewN | with_reducible apply Below.drew | (with_reducible apply bl_alloc; focus (first | (simp; done) | (simp; omega) | omega)) | (with_reducible apply bl_set; focus (first | (simp; done) | (simp; omega) | omega))))⟩
  · have h' : ((a : Int) == n) = false := by simp; omega
    have h2 : ¬ (a : Int) = n := by omega
    go_enter Try.func35, Try.ntmps35
    go_wp2
    go_ret
    exact ⟨by simp [h], by (repeat (first | (with_reducible assumption) | (with_reducible exact Below.refl _ _) | with_reducible apply bl_drewN | with_reducible apply Below.drew | (with_reducible apply bl_alloc; focus (first | (simp; done) | (simp; omega) | omega)) | (with_reducible apply bl_set; focus (first | (simp; done) | (simp; omega) | omega))))⟩
def idxV (l : List SSt) (n : Nat) : Int := if ackI l n < l.length then ackI l n else -1
set_option maxHeartbeats 1000000 in
set_option maxRecDepth 20000 in
theorem idx_any (b off cap n nb : Nat) (l : List SSt) (w : World) (L : ListAt w b off l) (B : Blk w nb #[.int .u64 n] 29) :
    Calls Try.prog 34 #[.slice (some ⟨b, off, none⟩) l.length cap, .func (.func 35) #[] #[.pointer (some ⟨nb, 0, none⟩)]] w fun e w' => e = .returned (.int .i64 (idxV l n)) ∧ Below w.heap.size w w' := by
  have hp := L.pos
  go_enter Try.func34, Try.ntmps34
  go_wp2_with fail
  go_loopg [8] l.length (fun g t8 wr => ∃ k : Nat, t8 = .int .i64 k ∧ k + g = l.length ∧ (∀ j, j < k → (l.getD j default).num ≠ n) ∧ Below w.heap.size w wr)
  case atStart => exact ⟨0, rfl, by omega, fun j hj => by omega, by (repeat (first | (with_reducible assumption) | (with_reducible exact Below.refl _ _) | with_reducible apply bl_drewN | with_reducible apply Below.drew | (with_reducible apply bl_alloc; focus (first | (simp; done) | (simp; omega) | omega)) | (with_reducible apply bl_set; focus (first | (simp; done) | (simp; omega) | omega))))⟩
  case round =>
    obtain ⟨k, rfl, hk, hn, HB⟩ := hrel
    have HBs := HB.size
    have HK := Lib.hid hk
    cases gk with
    | zero =>
      have hk' : ¬ (k : Int) < l.length := by omega
      have hi : idxV l n = -1 := by
        unfold idxV
        rw [ackI_miss l n (fun j hj => hn j (by omega)), if_neg (by omega)]
      have HI := Lib.hid hi
      clear hk hn hi
      go_wp2
      go_ret
      exact ⟨ret_int HI.out.symm, HB⟩
    | succ g =>
      have hk' : (k : Int) < l.length := by omega
      have hkl : k < l.length := by omega
      clear hk
      have L1 := L.below HB
      have h0 := L1.c0 k hkl
      have h1 := L1.c1 k hkl
      have h2 := L1.c2 k hkl
      have hbl := L1.lt
      have B1 := B.below HB
      obtain ⟨x, hx⟩ : ∃ x, l.getD k default = x := ⟨_, rfl⟩
      rw [hx] at h0 h1 h2
      have HX := Lib.hid hx
      have HN := Lib.hid hn
      clear hx hn L1
      go_wp2_with fail
      refine (is_any x.num x.sent n x.val nb _ B1).mono ?_
      rintro e w1 ⟨rfl, hb⟩
      have HB1 := Below.thn HB hb HBs
      by_cases hq : x.num = n
      · have hi : idxV l n = (k : Int) := by
          unfold idxV
          rw [ackI_hit l n k hkl (by rw [HX.out]; exact hq) HN.out, if_pos hkl]
        have hd : decide (x.num = n) = true := by simp [hq]
        rw [hd]
        have HI := Lib.hid hi
        clear hi hd hq
        go_wp2
        go_ret
        exact ⟨ret_int HI.out.symm, HB1⟩
      · have hd : decide (x.num = n) = false := by simp [hq]
        rw [hd]
        have HQ := Lib.hid hq
        clear hd hq
        go_wp2_with fail
        go_roundg g
        case rel => exact ⟨k + 1, by simp, by have := HK.out; omega, fun j hj => by
          by_cases e : j = k
          · subst e; rw [HX.out]; exact HQ.out
          · exact HN.out j (by omega), HB1⟩
        case measure => omega
theorem ListAt.drop {w : World} {b off : Nat} {l : List SSt} (L : ListAt w b off l) (i : Nat) (hi : i < l.length) : ListAt w b (off + i * 3) (l.drop i) := by
  have hlen : (l.drop i).length = l.length - i := List.length_drop
  have hg : ∀ j, (l.drop i).getD j default = l.getD (i + j) default := fun j => by simp [List.getD, List.getElem?_drop]
  have hp := L.pos
  refine ⟨L.lt, fun j hj => ?_, fun j hj => ?_, fun j hj => ?_, fun j hj => ?_, by omega⟩
  · rw [hg, show off + i * 3 + j * 3 = off + (i + j) * 3 by omega]; exact L.c0 _ (by omega)
  · rw [hg, show off + i * 3 + j * 3 + 1 = off + (i + j) * 3 + 1 by omega]; exact L.c1 _ (by omega)
  · rw [hg, show off + i * 3 + j * 3 + 2 = off + (i + j) * 3 + 2 by omega]; exact L.c2 _ (by omega)
  · rw [hg]; exact L.small _ (by omega)
def AckPost (l : List SSt) (now : ByteArray) (last n : Nat) (w : World) (e : Ending) (w' : World) : Prop := ∃ v, e = .returned v ∧ SenderAt w' v (ackL l n) now last ∧ Below w.heap.size w w'
set_option maxHeartbeats 1000000 in
set_option maxRecDepth 20000 in
theorem acked_any (v : Value) (last n : Nat) (l : List SSt) (now : ByteArray) (w : World) (S : SenderAt w v l now last) :
    Calls Try.prog 14 #[v, .int .u64 n] w fun e w' => AckPost l now last n w e w' := by
  obtain ⟨b, off, cap, rfl, hcap, hcm, L, hl1, hl2⟩ := S
  have hp := L.pos
  have hbl := L.lt
  have hsm : ∀ i, i < l.length → SmallL (l.drop i) := fun i hi => (L.drop i hi).small
  have hv0 : ackI l n = 0 → ackL l n = l := fun h => by unfold ackL; rw [h]; split <;> rfl
  go_enter Try.func14, Try.ntmps14
  go_wp2_with fail
  refine (idx_any b off cap n _ l _ (L.below (by (repeat (first | (with_reducible assumption) | (with_reducible exact Below.refl _ _) | with_reducible apply bl_drewN | with_reducible apply Below.drew | (with_reducible apply bl_alloc; focus (first | (simp; done) | (simp; omega) | omega)) | (with_reducible apply bl_set; focus (first | (simp; done) | (simp; omega) | omega)))))) (by (repeat (first | (with_reducible assumption) | (with_reducible apply Blk.new'; (first | (with_reducible rfl) | (simp; done))) | with_reducible apply Blk.alloc | with_reducible apply Blk.set | ((with_reducible apply Blk.set_ne); focus (first | (simp; done) | (simp; omega))) | with_reducible apply Blk.drewN | with_reducible apply Blk.drew)))).mono ?_
  rintro e w1 ⟨rfl, hb⟩
  have HB : Below w.heap.size w w1 := Below.thn (by (repeat (first | (with_reducible assumption) | (with_reducible exact Below.refl _ _) | with_reducible apply bl_drewN | with_reducible apply Below.drew | (with_reducible apply bl_alloc; focus (first | (simp; done) | (simp; omega) | omega)) | (with_reducible apply bl_set; focus (first | (simp; done) | (simp; omega) | omega))))) hb
  have HBs := HB.size
  have B0 := Blk.below (b := w.heap.size) (t := 31) (by (repeat (first | (with_reducible assumption) | (with_reducible apply Blk.new'; (first | (with_reducible rfl) | (simp; done))) | with_reducible apply Blk.alloc | with_reducible apply Blk.set | ((with_reducible apply Blk.set_ne); focus (first | (simp; done) | (simp; omega))) | with_reducible apply Blk.drewN | with_reducible apply Blk.drew))) hb
  have B0c := B0.cell; have B0f := B0.frozen; have B0l := B0.lt
  have B2 := Blk.below (b := w.heap.size+1+1) (t := 31) (by (repeat (first | (with_reducible assumption) | (with_reducible apply Blk.new'; (first | (with_reducible rfl) | (simp; done))) | with_reducible apply Blk.alloc | with_reducible apply Blk.set | ((with_reducible apply Blk.set_ne); focus (first | (simp; done) | (simp; omega))) | with_reducible apply Blk.drewN | with_reducible apply Blk.drew))) hb
  have B2c := B2.cell; have B2f := B2.frozen; have B2l := B2.lt
  clear hb
  have L1 := L.below HB
  by_cases hi : ackI l n < l.length ∧ 0 < ackI l n
  · have hv : idxV l n = (ackI l n : Int) := by unfold idxV; rw [if_pos hi.1]
    have hl : ackL l n = l.drop (ackI l n) := by unfold ackL; rw [if_pos hi.1]
    rw [hv]
    have HL := Lib.hid hl
    clear hv hl hv0
    generalize ackI l n = i at hi HL
    have hi1 : (0 : Int) < i := by omega
    have hi2 : (i : Int) ≤ l.length := by omega
    have hi3 : (i : Int) ≤ cap := by omega
    have hi4 : ¬ (i : Int) = l.length := by omega
    have hld : (l.drop i).length = l.length - i := List.length_drop
    have hc := clone_any b (off + i * 3) (cap - i) (l.drop i) w1 (L1.drop i hi.1)
    rw [hld] at hc
    go_wp2_with fail
    refine hc.mono ?_
    rintro e w2 ⟨v, rfl, ho, hb⟩
    clear hc
    have HB2 := Below.thn HB hb HBs
    have HBs2 := HB2.size
    have B02 := B0.below hb
    have B22 := B2.below hb
    have hss := hsm i hi.1
    have hs2 := hb.size
    have hd8 : 0 < (l.drop i).length ∧ (l.drop i).length ≤ 8 := by omega
    obtain ⟨av, cv, rfl⟩ := own_slice ho
    rw [hld]
    clear B0 B0c B0f B2 B2c B2f hsm L1 L HB hb hp
    have B0c := B02.cell; have B0f := B02.frozen; have B2c := B22.cell; have B2f := B22.frozen
    go_wp2
    refine bodyPost_ret (v := SV (.slice av (l.length - i) cv) now last) ?_ rfl ⟨_, rfl, ?_, ?_⟩
    · simp [results, Try.results14, go_sem, B0c, B0f, B0l, B2c, B2f, B2l]
    · rw [HL.out, ← hld]
      refine sender_of_own (base := w1.heap.size) ?_ hd8 hss hl1 hl2
      repeat (first | (with_reducible exact ho) | refine ownsRow_setCell_below ?_ (by first | (simp; done) | (simp; omega) | omega) _)
    · repeat (first | (with_reducible assumption) | (with_reducible exact Below.refl _ _) | with_reducible apply bl_drewN | with_reducible apply Below.drew | (with_reducible apply bl_alloc; focus (first | (simp; done) | (simp; omega) | omega)) | (with_reducible apply bl_set; focus (first | (simp; done) | (simp; omega) | omega)))
  · have hl : ackL l n = l := by
      by_cases h : ackI l n < l.length
      · exact hv0 (by omega)
      · unfold ackL; rw [if_neg h]
    have hv : ¬ (0 : Int) < idxV l n := by
      unfold idxV
      by_cases h : ackI l n < l.length
      · rw [if_pos h]; omega
      · rw [if_neg h]; omega
    have HL := Lib.hid hl
    generalize idxV l n = x at hv
    clear hl hv0 hi
    go_wp2
    refine bodyPost_ret (v := SV (.slice (some ⟨b, off, none⟩) l.length cap) now last) ?_ rfl ⟨_, rfl, ?_, ?_⟩
    · simp [results, Try.results14, go_sem, B0c, B0f, B0l, B2c, B2f, B2l]
    · rw [HL.out]
      exact (SenderAt.below (w := w) ⟨b, off, cap, rfl, hcap, hcm, L, hl1, hl2⟩ (by (repeat (first | (with_reducible assumption) | (with_reducible exact Below.refl _ _) | with_reducible apply bl_drewN | with_reducible apply Below.drew | (with_reducible apply bl_alloc; focus (first | (simp; done) | (simp; omega) | omega)) | (with_reducible apply bl_set; focus (first | (simp; done) | (simp; omega) | omega))))))
    · repeat (first | (with_reducible assumption) | (with_reducible exact Below.refl _ _) | with_reducible apply bl_drewN | with_reducible apply Below.drew | (with_reducible apply bl_alloc; focus (first | (simp; done) | (simp; omega) | omega)) | (with_reducible apply bl_set; focus (first | (simp; done) | (simp; omega) | omega)))
end Go.Proofs.Ytpnbmfpdoipioaa
