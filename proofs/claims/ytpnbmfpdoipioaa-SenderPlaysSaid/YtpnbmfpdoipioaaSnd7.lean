/- The document's sender: New, Acked, Due. -/
import Derived.Test.YtpnbmfpdoipioaaSndNext
namespace Go.Proofs.Ytpnbmfpdoipioaa
open Go.RowKit

abbrev QV (lv : Value) (now : ByteArray) (last : Nat) : Value := .agg #[lv, .string now, .int .u64 last]
def RefAt (w : World) (v : Value) (l : List SSt) (now : ByteArray) (last : Nat) : Prop :=
  ∃ b off cap, v = QV (.slice (some ⟨b, off, none⟩) l.length cap) now last ∧ l.length ≤ cap ∧ cap ≤ maxLen ∧ ListAt w b off l ∧ last ≤ 18446744073709551615 ∧ now.size ≤ 1000
theorem RefAt.below {w w' : World} {v : Value} {l : List SSt} {now : ByteArray} {last : Nat} (h : RefAt w v l now last) (g : Below w.heap.size w w') : RefAt w' v l now last := by
  obtain ⟨b, off, cap, h1, h2, h2', h3, h4⟩ := h
  exact ⟨b, off, cap, h1, h2, h2', h3.below g, h4⟩
theorem RefAt.form {w : World} {v : Value} {l : List SSt} {now : ByteArray} {last : Nat} (h : RefAt w v l now last) : ∃ a n c, v = QV (.slice a n c) now last := by
  obtain ⟨b, off, cap, h1, _⟩ := h; exact ⟨_, _, _, h1⟩
theorem list_oneT {w : World} {g : Nat} {t : TypeId} {s : ByteArray} (B : Blk w g #[.int .u64 0, .int .u64 0, .string s] t) (hs : s.size ≤ 1000) : ListAt w g 0 [⟨0, 0, s⟩] := by
  refine ⟨B.lt, fun j hj => ?_, fun j hj => ?_, fun j hj => ?_, fun j hj => ?_, by simp⟩
  all_goals obtain rfl : j = 0 := by simp at hj; exact hj
  · exact (B.cell _).trans rfl
  · exact (B.cell _).trans rfl
  · exact (B.cell _).trans rfl
  · exact ⟨Nat.zero_le _, Nat.zero_le _, hs⟩
def RNewPost (s : ByteArray) (w : World) (e : Ending) (w' : World) : Prop := ∃ v, e = .returned v ∧ RefAt w' v [⟨0, 0, s⟩] s 0 ∧ Below w.heap.size w w'
set_option maxHeartbeats 1000000 in
set_option maxRecDepth 20000 in
theorem rnew_any (s : ByteArray) (w : World) (hs : s.size ≤ 1000) : Calls Try.prog 17 #[.string s] w fun e w' => RNewPost s w e w' := by
  go_enter Try.func17, Try.ntmps17
  go_wp2
  refine bodyPost_ret (v := QV (.slice (some ⟨w.heap.size + 1, 0, none⟩) 1 1) s 0) ?_ rfl ⟨_, rfl, ⟨w.heap.size + 1, 0, 1, rfl, Nat.le_refl _, by unfold maxLen; omega, ?_, by omega, hs⟩, ?_⟩
  · simp [results, Try.results17, go_sem]
  · refine list_oneT (t := 55) ?_ hs
    (apply Blk.conv; focus (repeat (first | (with_reducible assumption) | (with_reducible apply Blk.new'; (first | (with_reducible rfl) | (simp; done))) | with_reducible apply Blk.alloc | with_reducible apply Blk.set | ((with_reducible apply Blk.set_ne); focus (first | (simp; done) | (simp; omega))) | with_reducible apply Blk.drewN | with_reducible apply Blk.drew)))
    (first | rfl | (simp; done) | (simp; omega))
  · repeat (first | (with_reducible assumption) | (with_reducible exact Below.refl _ _) | with_reducible apply bl_drewN | with_reducible apply Below.drew | (with_reducible apply bl_alloc; focus (first | (simp; done) | (simp; omega) | omega)) | (with_reducible apply bl_set; focus (first | (simp; done) | (simp; omega) | omega)))
set_option maxHeartbeats 1000000 in
theorem later_any (a b : Nat) (w : World) (ha : a ≤ 18446744073709551615) (hb : b ≤ 18446744073709551615) :
    Calls Try.prog 37 #[.int .u64 a, .int .u64 b] w fun e w' => e = .returned (.int .u64 (addU a b : Nat)) ∧ Below w.heap.size w w' := by
  unfold addU
  by_cases h : 18446744073709551615 - a < b
  · have hw : IntKind.u64.wrap ((a : Int) + b) = (a : Int) + b - 18446744073709551616 := by
      simp only [IntKind.wrap, IntKind.bits, IntKind.signed]
      simp
      omega
    have h1 : (a : Int) + b - 18446744073709551616 < a := by omega
    rw [if_pos h]
    go_enter Try.func37, Try.ntmps37
    go_wp2
    go_ret
    exact ⟨rfl, by (repeat (first | (with_reducible assumption) | (with_reducible exact Below.refl _ _) | with_reducible apply bl_drewN | with_reducible apply Below.drew | (with_reducible apply bl_alloc; focus (first | (simp; done) | (simp; omega) | omega)) | (with_reducible apply bl_set; focus (first | (simp; done) | (simp; omega) | omega))))⟩
  · have h1 : ¬ (a : Int) + b < a := by omega
    have h2 : (a : Int) + b ≤ 18446744073709551615 := by omega
    rw [if_neg h]
    go_enter Try.func37, Try.ntmps37
    go_wp2
    go_ret
    exact ⟨ret_int (by omega), by (repeat (first | (with_reducible assumption) | (with_reducible exact Below.refl _ _) | with_reducible apply bl_drewN | with_reducible apply Below.drew | (with_reducible apply bl_alloc; focus (first | (simp; done) | (simp; omega) | omega)) | (with_reducible apply bl_set; focus (first | (simp; done) | (simp; omega) | omega))))⟩
def RAckPost (l : List SSt) (now : ByteArray) (last n : Nat) (w : World) (e : Ending) (w' : World) : Prop := ∃ v, e = .returned v ∧ RefAt w' v (ackL l n) now last ∧ Below w.heap.size w w'
set_option maxHeartbeats 1000000 in
set_option maxRecDepth 20000 in
theorem racked_any (v : Value) (last n : Nat) (l : List SSt) (now : ByteArray) (w : World) (S : RefAt w v l now last) :
    Calls Try.prog 18 #[v, .int .u64 n] w fun e w' => RAckPost l now last n w e w' := by
  obtain ⟨b, off, cap, rfl, hcap, hcm, L, hl1, hl2⟩ := S
  have hp := L.pos
  go_enter Try.func18, Try.ntmps18
  go_wp2_with fail
  refine wp_abs2 (n := w.heap.size) (w := w) w.heap.size 50 (w.heap.size + 1) 50 (by (repeat (first | (with_reducible assumption) | (with_reducible exact Below.refl _ _) | with_reducible apply bl_drewN | with_reducible apply Below.drew | (with_reducible apply bl_alloc; focus (first | (simp; done) | (simp; omega) | omega)) | (with_reducible apply bl_set; focus (first | (simp; done) | (simp; omega) | omega))))) (by (repeat (first | (with_reducible assumption) | (with_reducible apply Blk.new'; (first | (with_reducible rfl) | (simp; done))) | with_reducible apply Blk.alloc | with_reducible apply Blk.set | ((with_reducible apply Blk.set_ne); focus (first | (simp; done) | (simp; omega))) | with_reducible apply Blk.drewN | with_reducible apply Blk.drew))) (by (repeat (first | (with_reducible assumption) | (with_reducible apply Blk.new'; (first | (with_reducible rfl) | (simp; done))) | with_reducible apply Blk.alloc | with_reducible apply Blk.set | ((with_reducible apply Blk.set_ne); focus (first | (simp; done) | (simp; omega))) | with_reducible apply Blk.drewN | with_reducible apply Blk.drew))) (fun W0 hb0 B0 B1 => ?_)
  go_loopg [10] l.length (fun g t10 wr => ∃ k : Nat, t10 = .int .i64 k ∧ k + g = l.length ∧ (∀ j, j < k → (l.getD j default).num ≠ n) ∧ Below W0.heap.size W0 wr)
  case atStart => exact ⟨0, rfl, by omega, fun j hj => by omega, Below.refl _ _⟩
  case round =>
    obtain ⟨k, rfl, hk, hn, HBW⟩ := hrel
    have HB := Below.thn hb0 HBW hb0.size
    have HBs := HB.size
    have HK := Lib.hid hk
    have C0 := B0.below HBW
    have C1 := B1.below HBW
    have C0c := C0.cell; have C0f := C0.frozen; have C0l := C0.lt
    have C1c := C1.cell; have C1f := C1.frozen; have C1l := C1.lt
    cases gk with
    | zero =>
      have hk' : ¬ (k : Int) < l.length := by omega
      have hi : ackL l n = l := by
        unfold ackL
        rw [ackI_miss l n (fun j hj => hn j (by omega)), if_neg (by omega)]
      have HI := Lib.hid hi
      clear hk hn hi
      go_wp2
      refine bodyPost_ret (v := QV (.slice (some ⟨b, off, none⟩) l.length cap) now last) ?_ rfl ⟨_, rfl, ?_, ?_⟩
      · first | (simp [results, Try.results18, go_sem, C1c]; done) | simp [results, Try.results18, go_sem, C1c, C1l]
      · rw [HI.out]
        exact (RefAt.below (w := w) ⟨b, off, cap, rfl, hcap, hcm, L, hl1, hl2⟩ (by (repeat (first | (with_reducible assumption) | (with_reducible exact Below.refl _ _) | with_reducible apply bl_drewN | with_reducible apply Below.drew | (with_reducible apply bl_alloc; focus (first | (simp; done) | (simp; omega) | omega)) | (with_reducible apply bl_set; focus (first | (simp; done) | (simp; omega) | omega))))))
      · repeat (first | (with_reducible assumption) | (with_reducible exact Below.refl _ _) | with_reducible apply bl_drewN | with_reducible apply Below.drew | (with_reducible apply bl_alloc; focus (first | (simp; done) | (simp; omega) | omega)) | (with_reducible apply bl_set; focus (first | (simp; done) | (simp; omega) | omega)))
    | succ g =>
      have hk' : (k : Int) < l.length := by omega
      have hkl : k < l.length := by omega
      clear hk
      have L1 := L.below HB
      have h0 := L1.c0 k hkl
      have h1 := L1.c1 k hkl
      have h2 := L1.c2 k hkl
      have hbl := L1.lt
      obtain ⟨x, hx⟩ : ∃ x, l.getD k default = x := ⟨_, rfl⟩
      rw [hx] at h0 h1 h2
      have HX := Lib.hid hx
      have HN := Lib.hid hn
      clear hx hn L1
      by_cases hq : x.num = n
      · have hl : ackL l n = l.drop k := by
          unfold ackL
          rw [ackI_hit l n k hkl (by rw [HX.out]; exact hq) HN.out, if_pos hkl]
        have HL := Lib.hid hl
        have hi2 : (k : Int) ≤ l.length := by omega
        have hi3 : (k : Int) ≤ cap := by omega
        have hi4 : ¬ (k : Int) = l.length := by omega
        have hld : (l.drop k).length = l.length - k := List.length_drop
        have hqi : (x.num : Int) = n := by omega
        have L2 := L.drop k hkl
        have Lq := Lib.hid L2
        clear hl hq L2
        go_wp2
        refine bodyPost_ret (v := QV (.slice (some ⟨b, off + k * 3, none⟩) (l.length - k) (cap - k)) now last) ?_ rfl ⟨_, rfl, ?_, ?_⟩
        · first | (simp [results, Try.results18, go_sem, C1c]; done) | simp [results, Try.results18, go_sem, C1c, C1l]
        · rw [HL.out]
          refine RefAt.below (w := w) ⟨b, off + k * 3, cap - k, by rw [hld], by omega, by omega, Lq.out, hl1, hl2⟩ (by (repeat (first | (with_reducible assumption) | (with_reducible exact Below.refl _ _) | with_reducible apply bl_drewN | with_reducible apply Below.drew | (with_reducible apply bl_alloc; focus (first | (simp; done) | (simp; omega) | omega)) | (with_reducible apply bl_set; focus (first | (simp; done) | (simp; omega) | omega)))))
        · repeat (first | (with_reducible assumption) | (with_reducible exact Below.refl _ _) | with_reducible apply bl_drewN | with_reducible apply Below.drew | (with_reducible apply bl_alloc; focus (first | (simp; done) | (simp; omega) | omega)) | (with_reducible apply bl_set; focus (first | (simp; done) | (simp; omega) | omega)))
      · have hqi : ¬ (x.num : Int) = n := by omega
        have HQ := Lib.hid hq
        clear hq
        have HBn := HBW.alloc HBW.size (.cells #[.int .u64 x.num, .int .u64 x.sent, .string x.val] 55)
        go_wp2_with fail
        go_roundg g
        case rel => exact ⟨k + 1, by simp, by have := HK.out; omega, fun j hj => by
          by_cases e : j = k
          · subst e; rw [HX.out]; exact HQ.out
          · exact HN.out j (by omega), HBn⟩
        case measure => omega
set_option maxHeartbeats 1000000 in
set_option maxRecDepth 20000 in
theorem rdue_any (v : Value) (last wait beat : Nat) (l : List SSt) (now : ByteArray) (w : World) (S : RefAt w v l now last) (hw : wait ≤ 18446744073709551615) (hbt : beat ≤ 18446744073709551615) :
    Calls Try.prog 19 #[v, .int .u64 wait, .int .u64 beat] w fun e w' => e = .returned (.int .u64 (dueU l now last wait beat : Nat)) ∧ Below w.heap.size w w' := by
  obtain ⟨b, off, cap, rfl, hcap, hcm, L, hl1, hl2⟩ := S
  have hp := L.pos
  have hts := top_small L
  obtain ⟨k, hk⟩ : ∃ k, k = l.length - 1 := ⟨_, rfl⟩
  have hk2 : (l.length : Int) - 1 = (k : Int) := by omega
  have hkl : (k : Int) < l.length := by omega
  have hbl := L.lt
  have h0 := L.c0 k (by omega)
  have h1 := L.c1 k (by omega)
  have h2 := L.c2 k (by omega)
  have htop : topS l = l.getD k default := by rw [hk]; rfl
  obtain ⟨x, hx⟩ : ∃ x, l.getD k default = x := ⟨_, rfl⟩
  rw [hx] at h0 h1 h2 htop
  rw [htop] at hts
  have ha1 := addU_le last beat hl1
  have ha2 := addU_le x.sent wait hts.2.1
  obtain ⟨r, hr⟩ : ∃ r, dueU l now last wait beat = r := ⟨_, rfl⟩
  rw [hr]
  obtain ⟨d, hd⟩ : ∃ d, (now.toList == x.val.toList) = d := ⟨_, rfl⟩
  have hfr : freshB l now = (!d && decide (l.length < 8)) := by
    unfold freshB; rw [htop, ← hd, ba_beq]
  have HFR := Lib.hid hfr
  have HR := Lib.hid hr
  have HT := Lib.hid htop
  clear hr hx hk htop hfr L
  by_cases h8 : d = false ∧ l.length < 8
  · have h8' : (l.length : Int) < 8 := by omega
    obtain ⟨rfl, h9⟩ := h8
    have hr0 : 0 = r := by
      have := HR.out; unfold dueU at this; rwa [if_pos (by rw [HFR.out]; simp [h9])] at this
    subst hr0
    go_enter Try.func19, Try.ntmps19
    go_wp2
    go_ret
    exact ⟨rfl, by (repeat (first | (with_reducible assumption) | (with_reducible exact Below.refl _ _) | with_reducible apply bl_drewN | with_reducible apply Below.drew | (with_reducible apply bl_alloc; focus (first | (simp; done) | (simp; omega) | omega)) | (with_reducible apply bl_set; focus (first | (simp; done) | (simp; omega) | omega))))⟩
  · have hnf : ¬ freshB l now = true := by
      rw [HFR.out]; intro h; simp at h; exact h8 h
    have HNF := Lib.hid hnf
    clear hnf
    cases d with
    | true =>
      clear h8
      go_enter Try.func19, Try.ntmps19
      go_wp2_with fail
      refine (later_any last beat _ hl1 hbt).mono ?_
      rintro e w1 ⟨rfl, hb⟩
      have HB : Below w.heap.size w w1 := Below.thn (by (repeat (first | (with_reducible assumption) | (with_reducible exact Below.refl _ _) | with_reducible apply bl_drewN | with_reducible apply Below.drew | (with_reducible apply bl_alloc; focus (first | (simp; done) | (simp; omega) | omega)) | (with_reducible apply bl_set; focus (first | (simp; done) | (simp; omega) | omega))))) hb
      have B0 := Blk.below (b := w.heap.size) (t := 50) (by (repeat (first | (with_reducible assumption) | (with_reducible apply Blk.new'; (first | (with_reducible rfl) | (simp; done))) | with_reducible apply Blk.alloc | with_reducible apply Blk.set | ((with_reducible apply Blk.set_ne); focus (first | (simp; done) | (simp; omega))) | with_reducible apply Blk.drewN | with_reducible apply Blk.drew))) hb
      have B1 := Blk.below (b := w.heap.size + 1) (t := 55) (by (repeat (first | (with_reducible assumption) | (with_reducible apply Blk.new'; (first | (with_reducible rfl) | (simp; done))) | with_reducible apply Blk.alloc | with_reducible apply Blk.set | ((with_reducible apply Blk.set_ne); focus (first | (simp; done) | (simp; omega))) | with_reducible apply Blk.drewN | with_reducible apply Blk.drew))) hb
      have HBs := HB.size
      have B0c := B0.cell; have B0l := B0.lt; have B1c := B1.cell; have B1l := B1.lt
      clear hb h0 h1 h2
      by_cases h1l : 1 < l.length
      · have h1' : (1 : Int) < l.length := by omega
        have hr : min (addU last beat) (addU x.sent wait) = r := by
          have := HR.out; unfold dueU at this; rwa [if_neg HNF.out, if_pos h1l, HT.out] at this
        have HR2 := Lib.hid hr
        clear hr h1l
        go_wp2_with fail
        refine (later_any x.sent wait _ hts.2.1 hw).mono ?_
        rintro e w2 ⟨rfl, hb⟩
        have HB2 := Below.thn HB hb HBs
        have HBs2 := HB2.size
        have B12 := B1.below hb
        have B12c := B12.cell; have B12l := B12.lt
        clear hb B0 B1 B0c B1c B0l B1l
        by_cases hlt : addU x.sent wait < addU last beat
        · have hlt' : (addU x.sent wait : Int) < addU last beat := by omega
          go_wp2_with fail
          refine (later_any x.sent wait _ hts.2.1 hw).mono ?_
          rintro e w3 ⟨rfl, hb⟩
          go_wp2
          go_ret
          exact ⟨ret_int (by have := HR2.out; omega), Below.thn HB2 hb HBs2⟩
        · have hlt' : ¬ (addU x.sent wait : Int) < addU last beat := by omega
          go_wp2
          go_ret
          exact ⟨ret_int (by have := HR2.out; omega), HB2⟩
      · have h1' : ¬ (1 : Int) < l.length := by omega
        first | omega | skip
        all_goals
          have hr : addU last beat = r := by
            have := HR.out; unfold dueU at this; rwa [if_neg HNF.out, if_neg h1l] at this
          subst hr
          clear h1l
          go_wp2
          go_ret
          exact ⟨rfl, HB⟩
    | false =>
      have h8' : ¬ (l.length : Int) < 8 := by
        intro h
        exact h8 ⟨rfl, by omega⟩
      clear h8
      go_enter Try.func19, Try.ntmps19
      go_wp2_with fail
      refine (later_any last beat _ hl1 hbt).mono ?_
      rintro e w1 ⟨rfl, hb⟩
      have HB : Below w.heap.size w w1 := Below.thn (by (repeat (first | (with_reducible assumption) | (with_reducible exact Below.refl _ _) | with_reducible apply bl_drewN | with_reducible apply Below.drew | (with_reducible apply bl_alloc; focus (first | (simp; done) | (simp; omega) | omega)) | (with_reducible apply bl_set; focus (first | (simp; done) | (simp; omega) | omega))))) hb
      have B0 := Blk.below (b := w.heap.size) (t := 50) (by (repeat (first | (with_reducible assumption) | (with_reducible apply Blk.new'; (first | (with_reducible rfl) | (simp; done))) | with_reducible apply Blk.alloc | with_reducible apply Blk.set | ((with_reducible apply Blk.set_ne); focus (first | (simp; done) | (simp; omega))) | with_reducible apply Blk.drewN | with_reducible apply Blk.drew))) hb
      have B1 := Blk.below (b := w.heap.size + 1) (t := 55) (by (repeat (first | (with_reducible assumption) | (with_reducible apply Blk.new'; (first | (with_reducible rfl) | (simp; done))) | with_reducible apply Blk.alloc | with_reducible apply Blk.set | ((with_reducible apply Blk.set_ne); focus (first | (simp; done) | (simp; omega))) | with_reducible apply Blk.drewN | with_reducible apply Blk.drew))) hb
      have HBs := HB.size
      have B0c := B0.cell; have B0l := B0.lt; have B1c := B1.cell; have B1l := B1.lt
      clear hb h0 h1 h2
      by_cases h1l : 1 < l.length
      · have h1' : (1 : Int) < l.length := by omega
        have hr : min (addU last beat) (addU x.sent wait) = r := by
          have := HR.out; unfold dueU at this; rwa [if_neg HNF.out, if_pos h1l, HT.out] at this
        have HR2 := Lib.hid hr
        clear hr h1l
        go_wp2_with fail
        refine (later_any x.sent wait _ hts.2.1 hw).mono ?_
        rintro e w2 ⟨rfl, hb⟩
        have HB2 := Below.thn HB hb HBs
        have HBs2 := HB2.size
        have B12 := B1.below hb
        have B12c := B12.cell; have B12l := B12.lt
        clear hb B0 B1 B0c B1c B0l B1l
        by_cases hlt : addU x.sent wait < addU last beat
        · have hlt' : (addU x.sent wait : Int) < addU last beat := by omega
          go_wp2_with fail
          refine (later_any x.sent wait _ hts.2.1 hw).mono ?_
          rintro e w3 ⟨rfl, hb⟩
          go_wp2
          go_ret
          exact ⟨ret_int (by have := HR2.out; omega), Below.thn HB2 hb HBs2⟩
        · have hlt' : ¬ (addU x.sent wait : Int) < addU last beat := by omega
          go_wp2
          go_ret
          exact ⟨ret_int (by have := HR2.out; omega), HB2⟩
      · have h1' : ¬ (1 : Int) < l.length := by omega
        first | omega | skip
        all_goals
          have hr : addU last beat = r := by
            have := HR.out; unfold dueU at this; rwa [if_neg HNF.out, if_neg h1l] at this
          subst hr
          clear h1l
          go_wp2
          go_ret
          exact ⟨rfl, HB⟩
end Go.Proofs.Ytpnbmfpdoipioaa
