/- The document's sender: Next. -/
import Derived.Test.YtpnbmfpdoipioaaSnd7
import Derived.Deep.RegionHeld3
namespace Go.Proofs.Ytpnbmfpdoipioaa
open Go.RowKit

abbrev StV (x : SSt) : Value := .agg #[.int .u64 x.num, .int .u64 x.sent, .string x.val]
theorem nextL_fresh (l : List SSt) (now : ByteArray) (tm : Nat) (h : freshB l now = true) : nextL l now tm = l ++ [⟨(topS l).num + 1, tm, now⟩] := by
  rw [nextL_mL]
  have e : mL l now = l ++ [⟨(topS l).num + 1, 0, now⟩] := by unfold mL; rw [if_pos h]
  have ht : topS (l ++ [(⟨(topS l).num + 1, 0, now⟩ : SSt)]) = ⟨(topS l).num + 1, 0, now⟩ := by rw [topS_get _ (by simp)]; simp
  rw [e, ht]
  simp
theorem nextL_old (l : List SSt) (now : ByteArray) (tm : Nat) (h : ¬ freshB l now = true) : nextL l now tm = l.set (l.length - 1) { topS l with sent := tm } := by
  rw [nextL_mL]
  have e : mL l now = l := by unfold mL; rw [if_neg h]
  rw [e]
theorem info55 : (Try.prog.info? 55).map (fun i => (i.zero, i.size, i.bytes)) = some (some (.agg #[.int .u64 0, .int .u64 0, .string ⟨#[]⟩]), 3, 32) := by kernel_rfl
def RNextPost (l : List SSt) (now : ByteArray) (tm : Nat) (w : World) (e : Ending) (w' : World) : Prop :=
  ∃ v, e = .returned (.tuple #[v, StV ((nextL l now tm).getD 0 default), StV (topS (nextL l now tm)), .bool true]) ∧ RefAt w' v (nextL l now tm) now tm ∧ Below w.heap.size w w'
theorem list_of_own55 {w : World} {base : Nat} {v : Value} {l : List SSt} (h : w.ownsRow base 55 3 v l.length (sCells l)) (hp : 0 < l.length ∧ l.length ≤ 8) (hs : SmallL l) : ∃ g c, v = .slice (some ⟨g, 0, none⟩) l.length c ∧ base ≤ g ∧ l.length ≤ c ∧ c ≤ maxLen ∧ ListAt w g 0 l := by
  obtain ⟨g, c, rfl, hg, hgl, hc⟩ := own_reads h hp.1
  refine ⟨g, c, rfl, hg, ?_, ?_, hgl, fun j hj => ?_, fun j hj => ?_, fun j hj => ?_, hs, hp⟩
  · rcases h.2 with ⟨_, h5⟩ | ⟨_, _, _, h5, _, _, h6, _⟩
    · omega
    · simp only [Value.slice.injEq] at h5; omega
  · rcases h.2 with ⟨_, h5⟩ | ⟨_, _, _, h5, _, _, _, h6, _⟩
    · omega
    · simp only [Value.slice.injEq] at h5; omega
  · rw [Nat.zero_add]; exact (hc _ (by omega)).trans (sCells_get l j hj).1
  · rw [Nat.zero_add]; exact (hc _ (by omega)).trans (sCells_get l j hj).2.1
  · rw [Nat.zero_add]; exact (hc _ (by omega)).trans (sCells_get l j hj).2.2

theorem own_cells {w : World} {base g c k : Nat} {e : TypeId} {l : List SSt} (h : w.ownsRow base e 3 (.slice (some ⟨g, 0, none⟩) l.length c) l.length (sCells l)) (hk : k < l.length) : w.cell? ⟨g, k * 3 + 1, none⟩ = some (.int .u64 (l.getD k default).sent) :=
  (World.ownsRow.cellAt h (k * 3 + 1) (by omega)).trans (sCells_get l k hk).2.1
set_option maxHeartbeats 4000000 in
set_option maxRecDepth 20000 in
theorem rnext_not (v : Value) (last tm wait beat : Nat) (l : List SSt) (now : ByteArray) (w : World) (S : RefAt w v l now last) (hw : wait ≤ 18446744073709551615) (hbt : beat ≤ 18446744073709551615) (hd : tm < dueU l now last wait beat) :
    Calls Try.prog 20 #[v, .int .u64 tm, .int .u64 wait, .int .u64 beat] w fun e w' => e = .returned (.tuple #[v, StV ⟨0, 0, ⟨#[]⟩⟩, StV ⟨0, 0, ⟨#[]⟩⟩, .bool false]) ∧ Below w.heap.size w w' := by
  obtain ⟨b, off, cap, rfl, hcap, hcm, L, hl1, hl2⟩ := S
  obtain ⟨i0, hi0, hz0, hz1, hz2⟩ := info_parts info55
  have hp := L.pos
  have hts := top_small L
  obtain ⟨k, hk⟩ : ∃ k, k = l.length - 1 := ⟨_, rfl⟩
  have hk2 : (l.length : Int) - 1 = (k : Int) := by omega
  have hkl : (k : Int) < l.length := by omega
  have hbl := L.lt
  have hbl1 : b < w.heap.size + 1 := by omega
  have hbl2 : b < w.heap.size + 1 + 1 := by omega
  have hbl3 : b < w.heap.size + 1 + 1 + 1 := by omega
  have hbl4 : b < w.heap.size + 1 + 1 + 1 + 1 := by omega
  have h0 := L.c0 k (by omega)
  have h1 := L.c1 k (by omega)
  have h2 := L.c2 k (by omega)
  have htop : topS l = l.getD k default := by rw [hk]; rfl
  obtain ⟨x, hx⟩ : ∃ x, l.getD k default = x := ⟨_, rfl⟩
  rw [hx] at h0 h1 h2 htop
  rw [htop] at hts
  have ha1 := addU_le last beat hl1
  have ha2 := addU_le x.sent wait hts.2.1
  obtain ⟨d, hdd⟩ : ∃ d, (now.toList == x.val.toList) = d := ⟨_, rfl⟩
  have hfr : freshB l now = (!d && decide (l.length < 8)) := by
    unfold freshB; rw [htop, ← hdd, ba_beq]
  have HFR := Lib.hid hfr
  have HT := Lib.hid htop
  have HK := Lib.hid hk
  have hlen := sCells_length l
  have hone := sCells_one l
  clear hx hk htop hfr
  go_enter Try.func20, Try.ntmps20
  go_upto_region 2 with fail
  refine wp_abs5 (n := w.heap.size) (w := w) w.heap.size 50 (w.heap.size + 1) 50 (w.heap.size + 1 + 1) 55 (w.heap.size + 1 + 1 + 1) 55 (w.heap.size + 1 + 1 + 1 + 1) 55 (by (repeat (first | (with_reducible assumption) | (with_reducible exact Below.refl _ _) | with_reducible apply bl_drewN | with_reducible apply Below.drew | (with_reducible apply bl_alloc; focus (first | (simp; done) | (simp; omega) | omega)) | (with_reducible apply bl_set; focus (first | (simp; done) | (simp; omega) | omega))))) (by (repeat (first | (with_reducible assumption) | (with_reducible apply Blk.new'; (first | (with_reducible rfl) | (simp; done))) | with_reducible apply Blk.alloc | with_reducible apply Blk.set | ((with_reducible apply Blk.set_ne); focus (first | (simp; done) | (simp; omega))) | with_reducible apply Blk.drewN | with_reducible apply Blk.drew))) (by (repeat (first | (with_reducible assumption) | (with_reducible apply Blk.new'; (first | (with_reducible rfl) | (simp; done))) | with_reducible apply Blk.alloc | with_reducible apply Blk.set | ((with_reducible apply Blk.set_ne); focus (first | (simp; done) | (simp; omega))) | with_reducible apply Blk.drewN | with_reducible apply Blk.drew))) (by (repeat (first | (with_reducible assumption) | (with_reducible apply Blk.new'; (first | (with_reducible rfl) | (simp; done))) | with_reducible apply Blk.alloc | with_reducible apply Blk.set | ((with_reducible apply Blk.set_ne); focus (first | (simp; done) | (simp; omega))) | with_reducible apply Blk.drewN | with_reducible apply Blk.drew))) (by (repeat (first | (with_reducible assumption) | (with_reducible apply Blk.new'; (first | (with_reducible rfl) | (simp; done))) | with_reducible apply Blk.alloc | with_reducible apply Blk.set | ((with_reducible apply Blk.set_ne); focus (first | (simp; done) | (simp; omega))) | with_reducible apply Blk.drewN | with_reducible apply Blk.drew))) (by (repeat (first | (with_reducible assumption) | (with_reducible apply Blk.new'; (first | (with_reducible rfl) | (simp; done))) | with_reducible apply Blk.alloc | with_reducible apply Blk.set | ((with_reducible apply Blk.set_ne); focus (first | (simp; done) | (simp; omega))) | with_reducible apply Blk.drewN | with_reducible apply Blk.drew))) (fun W0 HB0 B0 B1 B2 B3 B4 => ?_)
  have hnews := (L.below HB0).news
  have HBs0 := HB0.size
  have B0c := B0.cell; have B0f := B0.frozen; have B0l := B0.lt
  have hB4l := B4.lt
  clear h0 h1 h2
  go_wp2_with (at_builtin; refine wpList_append_lies _ rfl _ _ 48 rfl W0.heap.size 55 i0 _ 3 32 Try.underlying48 hi0 hz0 hz1 hz2 rfl (by decide) (.slice none 0 0) 0 [] rfl (World.ownsRow_nil _ _ _ _) ⟨b, off, none⟩ l.length cap (sCells l) rfl hlen hnews hone hp.1 (by unfold maxLen; omega) (by omega) (Nat.le_refl _) W0.heap.size rfl ?_)
  intro g c W1 ho hg hl hlt
  have HB1 : Below w.heap.size w W1 := HB0.grown hg HBs0 (fun q hq => by cases hq)
  have C0 := blk_grown B0 hg (by simp [Value.ownBlock])
  have C1 := blk_grown B1 hg (by simp [Value.ownBlock])
  have C2 := blk_grown B2 hg (by simp [Value.ownBlock])
  have C3 := blk_grown B3 hg (by simp [Value.ownBlock])
  have C4 := blk_grown B4 hg (by simp [Value.ownBlock])
  have HBs1 := HB1.size
  obtain ⟨N, hN⟩ : ∃ N, W0.heap.size = N := ⟨_, rfl⟩
  rw [hN] at ho hB4l HBs0
  clear B0 B1 B2 B3 B4 B0c B0f B0l hnews hlen hone hg hl HB0 hN
  have hnf : ¬ freshB l now = true := by
    intro h
    unfold dueU at hd
    rw [if_pos h] at hd
    omega
  have hdu : tm < addU last beat ∧ (1 < l.length → tm < addU x.sent wait) := by
    unfold dueU at hd
    rw [if_neg hnf, HT.out] at hd
    split at hd
    · exact ⟨by omega, fun _ => by omega⟩
    · rename_i h1; exact ⟨hd, fun h => absurd h h1⟩
  have hq1 : ¬ (addU last beat : Int) ≤ tm := by omega
  have hdd2 : d = true ∨ ¬ (l.length : Int) < 8 := by
    rw [HFR.out] at hnf
    cases d with
    | true => exact Or.inl rfl
    | false => simp at hnf; exact Or.inr (by omega)
  clear hnf hd
  cases d with
  | true =>
    clear hdd2
    by_cases h1l : 1 < l.length
    · have h1' : (1 : Int) < l.length := by omega
      have hq2 : ¬ (addU x.sent wait : Int) ≤ tm := by have := hdu.2 h1l; omega
      clear hdu h1l
      have C0c := C0.cell; have C0f := C0.frozen; have C0l := C0.lt
      have C1c := C1.cell; have C1f := C1.frozen; have C1l := C1.lt
      have C2c := C2.cell; have C2f := C2.frozen; have C2l := C2.lt
      have C3c := C3.cell; have C3f := C3.frozen; have C3l := C3.lt
      have C4c := C4.cell; have C4l := C4.lt
      go_wp2_with fail
      refine (later_any x.sent wait _ hts.2.1 hw).mono ?_
      rintro e w2 ⟨rfl, hb⟩
      have HB2 := Below.thn HB1 hb HBs1
      have HBs2 := HB2.size
      clear C0c C1c C2c C3c C4c C0f C1f C2f C3f C0l C1l C2l C3l C4l
      have D0 := C0.below hb
      have D1 := C1.below hb
      have D2 := C2.below hb
      have D3 := C3.below hb
      have D4 := C4.below hb
      clear C0 C1 C2 C3 C4
      have D0c := D0.cell; have D0f := D0.frozen; have D0l := D0.lt
      have D1c := D1.cell; have D1f := D1.frozen; have D1l := D1.lt
      have D2c := D2.cell; have D2f := D2.frozen; have D2l := D2.lt
      have D3c := D3.cell; have D3f := D3.frozen; have D3l := D3.lt
      have D4c := D4.cell; have D4l := D4.lt
      clear hb
      go_wp2_with fail
      refine (later_any last beat _ hl1 hbt).mono ?_
      rintro e w3 ⟨rfl, hb⟩
      have HB3 := Below.thn HB2 hb HBs2
      clear D0c D1c D2c D3c D4c D0f D1f D2f D3f D0l D1l D2l D3l D4l
      have F0 := D0.below hb
      have F1 := D1.below hb
      have F2 := D2.below hb
      have F3 := D3.below hb
      have F4 := D4.below hb
      clear D0 D1 D2 D3 D4
      have F0c := F0.cell; have F0f := F0.frozen; have F0l := F0.lt
      have F1c := F1.cell; have F1f := F1.frozen; have F1l := F1.lt
      have F2c := F2.cell; have F2f := F2.frozen; have F2l := F2.lt
      have F3c := F3.cell; have F3f := F3.frozen; have F3l := F3.lt
      have F4c := F4.cell; have F4l := F4.lt
      clear hb
      go_wp2
      refine bodyPost_ret (v := .tuple #[QV (.slice (some ⟨b, off, none⟩) l.length cap) now last, StV ⟨0, 0, ⟨#[]⟩⟩, StV ⟨0, 0, ⟨#[]⟩⟩, .bool false]) ?_ rfl ⟨rfl, ?_⟩
      · first | (simp [results, Try.results20, go_sem, F1c, F2c, F3c]; done) | simp [results, Try.results20, go_sem, F1c, F1l, F2c, F2l, F3c, F3l]
      · repeat (first | (with_reducible assumption) | (with_reducible exact Below.refl _ _) | with_reducible apply bl_drewN | with_reducible apply Below.drew | (with_reducible apply bl_alloc; focus (first | (simp; done) | (simp; omega) | omega)) | (with_reducible apply bl_set; focus (first | (simp; done) | (simp; omega) | omega)))
    · have h1' : ¬ (1 : Int) < l.length := by omega
      first | omega | skip
      all_goals clear hdu h1l
      all_goals
        have C0c := C0.cell; have C0f := C0.frozen; have C0l := C0.lt
        have C1c := C1.cell; have C1f := C1.frozen; have C1l := C1.lt
        have C2c := C2.cell; have C2f := C2.frozen; have C2l := C2.lt
        have C3c := C3.cell; have C3f := C3.frozen; have C3l := C3.lt
        have C4c := C4.cell; have C4l := C4.lt
        go_wp2_with fail
        refine (later_any last beat _ hl1 hbt).mono ?_
        rintro e w3 ⟨rfl, hb⟩
        have HB3 := Below.thn HB1 hb HBs1
        clear C0c C1c C2c C3c C4c C0f C1f C2f C3f C0l C1l C2l C3l C4l
        have F0 := C0.below hb
        have F1 := C1.below hb
        have F2 := C2.below hb
        have F3 := C3.below hb
        have F4 := C4.below hb
        clear C0 C1 C2 C3 C4
        have F0c := F0.cell; have F0f := F0.frozen; have F0l := F0.lt
        have F1c := F1.cell; have F1f := F1.frozen; have F1l := F1.lt
        have F2c := F2.cell; have F2f := F2.frozen; have F2l := F2.lt
        have F3c := F3.cell; have F3f := F3.frozen; have F3l := F3.lt
        have F4c := F4.cell; have F4l := F4.lt
        clear hb
        go_wp2
        refine bodyPost_ret (v := .tuple #[QV (.slice (some ⟨b, off, none⟩) l.length cap) now last, StV ⟨0, 0, ⟨#[]⟩⟩, StV ⟨0, 0, ⟨#[]⟩⟩, .bool false]) ?_ rfl ⟨rfl, ?_⟩
        · first | (simp [results, Try.results20, go_sem, F1c, F2c, F3c]; done) | simp [results, Try.results20, go_sem, F1c, F1l, F2c, F2l, F3c, F3l]
        · repeat (first | (with_reducible assumption) | (with_reducible exact Below.refl _ _) | with_reducible apply bl_drewN | with_reducible apply Below.drew | (with_reducible apply bl_alloc; focus (first | (simp; done) | (simp; omega) | omega)) | (with_reducible apply bl_set; focus (first | (simp; done) | (simp; omega) | omega)))
  | false =>
    have h8' : ¬ (l.length : Int) < 8 := by rcases hdd2 with h | h; cases h; exact h
    clear hdd2
    by_cases h1l : 1 < l.length
    · have h1' : (1 : Int) < l.length := by omega
      have hq2 : ¬ (addU x.sent wait : Int) ≤ tm := by have := hdu.2 h1l; omega
      clear hdu h1l
      have C0c := C0.cell; have C0f := C0.frozen; have C0l := C0.lt
      have C1c := C1.cell; have C1f := C1.frozen; have C1l := C1.lt
      have C2c := C2.cell; have C2f := C2.frozen; have C2l := C2.lt
      have C3c := C3.cell; have C3f := C3.frozen; have C3l := C3.lt
      have C4c := C4.cell; have C4l := C4.lt
      go_wp2_with fail
      refine (later_any x.sent wait _ hts.2.1 hw).mono ?_
      rintro e w2 ⟨rfl, hb⟩
      have HB2 := Below.thn HB1 hb HBs1
      have HBs2 := HB2.size
      clear C0c C1c C2c C3c C4c C0f C1f C2f C3f C0l C1l C2l C3l C4l
      have D0 := C0.below hb
      have D1 := C1.below hb
      have D2 := C2.below hb
      have D3 := C3.below hb
      have D4 := C4.below hb
      clear C0 C1 C2 C3 C4
      have D0c := D0.cell; have D0f := D0.frozen; have D0l := D0.lt
      have D1c := D1.cell; have D1f := D1.frozen; have D1l := D1.lt
      have D2c := D2.cell; have D2f := D2.frozen; have D2l := D2.lt
      have D3c := D3.cell; have D3f := D3.frozen; have D3l := D3.lt
      have D4c := D4.cell; have D4l := D4.lt
      clear hb
      go_wp2_with fail
      refine (later_any last beat _ hl1 hbt).mono ?_
      rintro e w3 ⟨rfl, hb⟩
      have HB3 := Below.thn HB2 hb HBs2
      clear D0c D1c D2c D3c D4c D0f D1f D2f D3f D0l D1l D2l D3l D4l
      have F0 := D0.below hb
      have F1 := D1.below hb
      have F2 := D2.below hb
      have F3 := D3.below hb
      have F4 := D4.below hb
      clear D0 D1 D2 D3 D4
      have F0c := F0.cell; have F0f := F0.frozen; have F0l := F0.lt
      have F1c := F1.cell; have F1f := F1.frozen; have F1l := F1.lt
      have F2c := F2.cell; have F2f := F2.frozen; have F2l := F2.lt
      have F3c := F3.cell; have F3f := F3.frozen; have F3l := F3.lt
      have F4c := F4.cell; have F4l := F4.lt
      clear hb
      go_wp2
      refine bodyPost_ret (v := .tuple #[QV (.slice (some ⟨b, off, none⟩) l.length cap) now last, StV ⟨0, 0, ⟨#[]⟩⟩, StV ⟨0, 0, ⟨#[]⟩⟩, .bool false]) ?_ rfl ⟨rfl, ?_⟩
      · first | (simp [results, Try.results20, go_sem, F1c, F2c, F3c]; done) | simp [results, Try.results20, go_sem, F1c, F1l, F2c, F2l, F3c, F3l]
      · repeat (first | (with_reducible assumption) | (with_reducible exact Below.refl _ _) | with_reducible apply bl_drewN | with_reducible apply Below.drew | (with_reducible apply bl_alloc; focus (first | (simp; done) | (simp; omega) | omega)) | (with_reducible apply bl_set; focus (first | (simp; done) | (simp; omega) | omega)))
    · have h1' : ¬ (1 : Int) < l.length := by omega
      first | omega | skip
      all_goals clear hdu h1l
      all_goals
        have C0c := C0.cell; have C0f := C0.frozen; have C0l := C0.lt
        have C1c := C1.cell; have C1f := C1.frozen; have C1l := C1.lt
        have C2c := C2.cell; have C2f := C2.frozen; have C2l := C2.lt
        have C3c := C3.cell; have C3f := C3.frozen; have C3l := C3.lt
        have C4c := C4.cell; have C4l := C4.lt
        go_wp2_with fail
        refine (later_any last beat _ hl1 hbt).mono ?_
        rintro e w3 ⟨rfl, hb⟩
        have HB3 := Below.thn HB1 hb HBs1
        clear C0c C1c C2c C3c C4c C0f C1f C2f C3f C0l C1l C2l C3l C4l
        have F0 := C0.below hb
        have F1 := C1.below hb
        have F2 := C2.below hb
        have F3 := C3.below hb
        have F4 := C4.below hb
        clear C0 C1 C2 C3 C4
        have F0c := F0.cell; have F0f := F0.frozen; have F0l := F0.lt
        have F1c := F1.cell; have F1f := F1.frozen; have F1l := F1.lt
        have F2c := F2.cell; have F2f := F2.frozen; have F2l := F2.lt
        have F3c := F3.cell; have F3f := F3.frozen; have F3l := F3.lt
        have F4c := F4.cell; have F4l := F4.lt
        clear hb
        go_wp2
        refine bodyPost_ret (v := .tuple #[QV (.slice (some ⟨b, off, none⟩) l.length cap) now last, StV ⟨0, 0, ⟨#[]⟩⟩, StV ⟨0, 0, ⟨#[]⟩⟩, .bool false]) ?_ rfl ⟨rfl, ?_⟩
        · first | (simp [results, Try.results20, go_sem, F1c, F2c, F3c]; done) | simp [results, Try.results20, go_sem, F1c, F1l, F2c, F2l, F3c, F3l]
        · repeat (first | (with_reducible assumption) | (with_reducible exact Below.refl _ _) | with_reducible apply bl_drewN | with_reducible apply Below.drew | (with_reducible apply bl_alloc; focus (first | (simp; done) | (simp; omega) | omega)) | (with_reducible apply bl_set; focus (first | (simp; done) | (simp; omega) | omega)))

set_option maxHeartbeats 8000000 in
set_option maxRecDepth 20000 in
theorem rnext_ok (v : Value) (last tm wait beat : Nat) (l : List SSt) (now : ByteArray) (w : World) (S : RefAt w v l now last) (hw : wait ≤ 18446744073709551615) (hbt : beat ≤ 18446744073709551615) (htm : tm ≤ 18446744073709551615) (hnum : (topS l).num < 1000000) (hd : ¬ tm < dueU l now last wait beat) :
    Calls Try.prog 20 #[v, .int .u64 tm, .int .u64 wait, .int .u64 beat] w fun e w' => RNextPost l now tm w e w' := by
  have hsm : SmallL l := by obtain ⟨_, _, _, _, _, _, L, _⟩ := S; exact L.small
  obtain ⟨b, off, cap, rfl, hcap, hcm, L, hl1, hl2⟩ := S
  obtain ⟨i0, hi0, hz0, hz1, hz2⟩ := info_parts info55
  have hp := L.pos
  have hts := top_small L
  obtain ⟨k, hk⟩ : ∃ k, k = l.length - 1 := ⟨_, rfl⟩
  have hk2 : (l.length : Int) - 1 = (k : Int) := by omega
  have hkl : (k : Int) < l.length := by omega
  have hbl := L.lt
  have hbl1 : b < w.heap.size + 1 := by omega
  have hbl2 : b < w.heap.size + 1 + 1 := by omega
  have hbl3 : b < w.heap.size + 1 + 1 + 1 := by omega
  have hbl4 : b < w.heap.size + 1 + 1 + 1 + 1 := by omega
  have h0 := L.c0 k (by omega)
  have h1 := L.c1 k (by omega)
  have h2 := L.c2 k (by omega)
  have htop : topS l = l.getD k default := by rw [hk]; rfl
  obtain ⟨x, hx⟩ : ∃ x, l.getD k default = x := ⟨_, rfl⟩
  rw [hx] at h0 h1 h2 htop
  rw [htop] at hts
  have ha1 := addU_le last beat hl1
  have ha2 := addU_le x.sent wait hts.2.1
  obtain ⟨d, hdd⟩ : ∃ d, (now.toList == x.val.toList) = d := ⟨_, rfl⟩
  have hfr : freshB l now = (!d && decide (l.length < 8)) := by
    unfold freshB; rw [htop, ← hdd, ba_beq]
  have HFR := Lib.hid hfr
  have HT := Lib.hid htop
  have HK := Lib.hid hk
  have hlen := sCells_length l
  have hone := sCells_one l
  clear hx hk htop hfr
  go_enter Try.func20, Try.ntmps20
  go_upto_region 2 with fail
  refine wp_abs5 (n := w.heap.size) (w := w) w.heap.size 50 (w.heap.size + 1) 50 (w.heap.size + 1 + 1) 55 (w.heap.size + 1 + 1 + 1) 55 (w.heap.size + 1 + 1 + 1 + 1) 55 (by (repeat (first | (with_reducible assumption) | (with_reducible exact Below.refl _ _) | with_reducible apply bl_drewN | with_reducible apply Below.drew | (with_reducible apply bl_alloc; focus (first | (simp; done) | (simp; omega) | omega)) | (with_reducible apply bl_set; focus (first | (simp; done) | (simp; omega) | omega))))) (by (repeat (first | (with_reducible assumption) | (with_reducible apply Blk.new'; (first | (with_reducible rfl) | (simp; done))) | with_reducible apply Blk.alloc | with_reducible apply Blk.set | ((with_reducible apply Blk.set_ne); focus (first | (simp; done) | (simp; omega))) | with_reducible apply Blk.drewN | with_reducible apply Blk.drew))) (by (repeat (first | (with_reducible assumption) | (with_reducible apply Blk.new'; (first | (with_reducible rfl) | (simp; done))) | with_reducible apply Blk.alloc | with_reducible apply Blk.set | ((with_reducible apply Blk.set_ne); focus (first | (simp; done) | (simp; omega))) | with_reducible apply Blk.drewN | with_reducible apply Blk.drew))) (by (repeat (first | (with_reducible assumption) | (with_reducible apply Blk.new'; (first | (with_reducible rfl) | (simp; done))) | with_reducible apply Blk.alloc | with_reducible apply Blk.set | ((with_reducible apply Blk.set_ne); focus (first | (simp; done) | (simp; omega))) | with_reducible apply Blk.drewN | with_reducible apply Blk.drew))) (by (repeat (first | (with_reducible assumption) | (with_reducible apply Blk.new'; (first | (with_reducible rfl) | (simp; done))) | with_reducible apply Blk.alloc | with_reducible apply Blk.set | ((with_reducible apply Blk.set_ne); focus (first | (simp; done) | (simp; omega))) | with_reducible apply Blk.drewN | with_reducible apply Blk.drew))) (by (repeat (first | (with_reducible assumption) | (with_reducible apply Blk.new'; (first | (with_reducible rfl) | (simp; done))) | with_reducible apply Blk.alloc | with_reducible apply Blk.set | ((with_reducible apply Blk.set_ne); focus (first | (simp; done) | (simp; omega))) | with_reducible apply Blk.drewN | with_reducible apply Blk.drew))) (fun W0 HB0 B0 B1 B2 B3 B4 => ?_)
  have hnews := (L.below HB0).news
  have HBs0 := HB0.size
  have B0c := B0.cell; have B0f := B0.frozen; have B0l := B0.lt
  have hB4l := B4.lt
  clear h0 h1 h2
  go_wp2_with (at_builtin; refine wpList_append_lies _ rfl _ _ 48 rfl W0.heap.size 55 i0 _ 3 32 Try.underlying48 hi0 hz0 hz1 hz2 rfl (by decide) (.slice none 0 0) 0 [] rfl (World.ownsRow_nil _ _ _ _) ⟨b, off, none⟩ l.length cap (sCells l) rfl hlen hnews hone hp.1 (by unfold maxLen; omega) (by omega) (Nat.le_refl _) W0.heap.size rfl ?_)
  intro g c W1 ho hg hl hlt
  have HB1 : Below w.heap.size w W1 := HB0.grown hg HBs0 (fun q hq => by cases hq)
  have C0 := blk_grown B0 hg (by simp [Value.ownBlock])
  have C1 := blk_grown B1 hg (by simp [Value.ownBlock])
  have C2 := blk_grown B2 hg (by simp [Value.ownBlock])
  have C3 := blk_grown B3 hg (by simp [Value.ownBlock])
  have C4 := blk_grown B4 hg (by simp [Value.ownBlock])
  have HBs1 := HB1.size
  obtain ⟨N, hN⟩ : ∃ N, W0.heap.size = N := ⟨_, rfl⟩
  rw [hN] at ho hB4l HBs0
  clear B0 B1 B2 B3 B4 B0c B0f B0l hnews hlen hone hg hl HB0 hN
  have C0c := C0.cell; have C0f := C0.frozen; have C0l := C0.lt
  have C1c := C1.cell; have C1f := C1.frozen; have C1l := C1.lt
  have C2c := C2.cell; have C2f := C2.frozen; have C2l := C2.lt
  have C3c := C3.cell; have C3f := C3.frozen; have C3l := C3.lt
  have C4c := C4.cell; have C4l := C4.lt
  have hnN : w.heap.size + 1 + 1 + 1 + 1 < N := hB4l
  go_upto_region 4 with fail
  obtain ⟨W1', hW1'⟩ : ∃ W, W = W1 := ⟨_, rfl⟩
  go_cut [35] (fun s35 wx => s35 = .bool (!d && decide (l.length < 8)) ∧ wx = W1')
  case first =>
    cases d with
    | true =>
      go_wp2_with fail
      go_meet
      case rel => exact ⟨rfl, hW1'.symm⟩
    | false =>
      by_cases h8 : l.length < 8
      · have h8' : (l.length : Int) < 8 := by omega
        go_wp2_with fail
        go_meet
        case rel => exact ⟨by simp [h8], hW1'.symm⟩
      · have h8' : ¬ (l.length : Int) < 8 := by omega
        go_wp2_with fail
        go_meet
        case rel => exact ⟨by simp [h8], hW1'.symm⟩
  case' rest =>
    obtain ⟨rfl, hwc⟩ := hcut
    have hwc2 : W1 = wc := (hwc.trans hW1').symm
    clear hwc hW1' W1'
    subst hwc2
  go_upto_if 35 with fail
  go_cut [13] (fun s13 wx => ∃ (g c : Nat), s13 = .slice (some ⟨g, 0, none⟩) (nextL l now tm).length c ∧ N ≤ g ∧ wx.ownsRow N 55 3 (.slice (some ⟨g, 0, none⟩) (nextL l now tm).length c) (nextL l now tm).length (sCells (nextL l now tm)) ∧
    Blk wx w.heap.size #[.slice (some ⟨b, off, none⟩) l.length cap, .string now, .int .u64 last] 50 ∧ Blk wx (w.heap.size + 1) #[.slice none 0 0, .string ⟨#[]⟩, .int .u64 0] 50 ∧
    Blk wx (w.heap.size + 1 + 1) #[.int .u64 0, .int .u64 0, .string ⟨#[]⟩] 55 ∧ Blk wx (w.heap.size + 1 + 1 + 1) #[.int .u64 0, .int .u64 0, .string ⟨#[]⟩] 55 ∧ Below w.heap.size w wx)
  case first =>
    have hNg := (ho.lt g rfl).1
    have hgl := (ho.lt g rfl).2
    have hNW : N ≤ W1.heap.size := by omega
    by_cases hf : d = false ∧ l.length < 8
    · obtain ⟨rfl, h8⟩ := hf
      have h8' : (l.length : Int) < 8 := by omega
      have hfr : freshB l now = true := by rw [HFR.out]; simp [h8]
      have hnl := nextL_fresh l now tm hfr
      rw [HT.out] at hnl
      have hml1 : (nextL l now tm).length = l.length + 1 := by rw [hnl]; simp
      have hml2 : sCells (nextL l now tm) = sCells l ++ [.int .u64 ((x.num : Int) + 1), .int .u64 tm, .string now] := by rw [hnl, sCells_snoc]; rfl
      have HM1 := Lib.hid hml1
      have HM2 := Lib.hid hml2
      have hwr : IntKind.u64.wrap ((x.num : Int) + 1) = (x.num : Int) + 1 := by simp [IntKind.wrap, IntKind.bits, IntKind.signed]; omega
      clear hfr hnl hml1 hml2 hd
      have hv : (!false && decide (l.length < 8)) = true := by simp [h8]
      rw [hv]
      go_wp2_with (at_builtin; refine wpList_append_lies _ rfl _ _ 48 rfl N 55 i0 _ 3 32 Try.underlying48 hi0 hz0 hz1 hz2 rfl (by decide) (.slice (some ⟨g, 0, none⟩) l.length c) l.length (sCells l) rfl (ho.alloc _) ⟨W1.heap.size, 0, none⟩ 1 1 [.int .u64 ((x.num : Int) + 1), .int .u64 tm, .string now] rfl rfl (World.news_of_block (heap_alloc_new W1 _)) (by simp [Value.oneCell']) (by decide) (by unfold maxLen; omega) (by omega) (Nat.le_trans hNW (Nat.le_trans (Nat.le_succ _) (by simp))) (W1.heap.size + 1) (by simp) ?_)
      intro g2 c2 W2 ho2 hg2 hl2 hlt2
      have ne : ∀ q, q < N → some q ≠ (Value.slice (some ⟨g, 0, none⟩) l.length c).ownBlock := fun q hq e => by simp only [Value.ownBlock, Option.some.injEq] at e; omega
      have D0 := blk_grown C0.alloc hg2 (ne _ (by omega))
      have D1 := blk_grown C1.alloc hg2 (ne _ (by omega))
      have D2 := blk_grown C2.alloc hg2 (ne _ (by omega))
      have D3 := blk_grown C3.alloc hg2 (ne _ (by omega))
      have HB2 : Below w.heap.size w W2 := (HB1.alloc HBs1 _).grown hg2 (by simp; omega) (fun q hq => by simp only [Value.ownBlock, Option.some.injEq] at hq; omega)
      have hN2 := (ho2.lt g2 rfl).1
      clear hg2 hl2 hlt2 C0 C1 C2 C3 C4 C0c C1c C2c C3c C4c C0f C1f C2f C3f
      go_wp2_with fail
      go_meet
      case rel =>
        rw [HM1.out, HM2.out]
        exact ⟨g2, c2, rfl, hN2, ho2, D0, D1, D2, D3, HB2⟩
    · have hnf : ¬ freshB l now = true := by
        rw [HFR.out]; intro h; simp at h; exact hf h
      have hnl := nextL_old l now tm hnf
      rw [HT.out, ← HK.out] at hnl
      have hxk : x = l.getD k default := by have := HT.out; rw [← this]; unfold topS; rw [← HK.out]
      have hdu : addU last beat ≤ tm ∨ (1 < l.length ∧ addU x.sent wait ≤ tm) := by
        unfold dueU at hd
        rw [if_neg hnf, HT.out] at hd
        split at hd
        · rename_i h1
          by_cases q : addU last beat ≤ tm
          · exact Or.inl q
          · exact Or.inr ⟨h1, by omega⟩
        · exact Or.inl (by omega)
      have hml1 : (nextL l now tm).length = l.length := by rw [hnl, List.length_set]
      have hml2 : sCells (nextL l now tm) = (sCells l).set (k * 3 + 1) (.int .u64 tm) := by rw [hnl, hxk, sCells_set l k tm (by omega)]
      have hv : (!d && decide (l.length < 8)) = false := by
        cases hq : (!d && decide (l.length < 8)) with
        | false => rfl
        | true => rw [← HFR.out] at hq; exact absurd hq hnf
      rw [hv]
      have HM1 := Lib.hid hml1
      have HM2 := Lib.hid hml2
      have HKL := Lib.hid (show k < l.length by omega)
      clear hnf hnl hml1 hml2 hd hf hxk
      clear hv hdd
      by_cases hA : 1 < l.length ∧ addU x.sent wait ≤ tm
      · have h1' : (1 : Int) < l.length := by omega
        have hq2 : (addU x.sent wait : Int) ≤ tm := by omega
        clear hA
        go_wp2_with fail
        refine (later_any x.sent wait _ hts.2.1 hw).mono ?_
        rintro e w2 ⟨rfl, hb⟩
        have HB2 := Below.thn HB1 hb HBs1
        have HBs2 := HB2.size
        have Do := own_below ho hb
        clear C0c C1c C2c C3c C4c C0f C1f C2f C3f C0l C1l C2l C3l C4l
        have D0 := C0.below hb
        have D1 := C1.below hb
        have D2 := C2.below hb
        have D3 := C3.below hb
        have D4 := C4.below hb
        clear C0 C1 C2 C3 C4
        have D0c := D0.cell; have D0f := D0.frozen; have D0l := D0.lt
        have D1c := D1.cell; have D1f := D1.frozen; have D1l := D1.lt
        have D2c := D2.cell; have D2f := D2.frozen; have D2l := D2.lt
        have D3c := D3.cell; have D3f := D3.frozen; have D3l := D3.lt
        have D4c := D4.cell; have D4l := D4.lt
        clear hb
        have L2 := own_cells Do HKL.out
        have hfz := own_frozen Do hp.1
        have hne : g ≠ w.heap.size := by omega
        clear hdu
        go_wp2_with fail
        have own5 := own_set (j := k * 3 + 1) Do (.int .u64 (tm : Int)) hp.1
        have Z0 := Blk.set_ne (a := ⟨g, k * 3 + 1, none⟩) (v := .int .u64 (tm : Int)) (show w.heap.size ≠ g by omega) D0
        have Z1 := Blk.set_ne (a := ⟨g, k * 3 + 1, none⟩) (v := .int .u64 (tm : Int)) (show w.heap.size + 1 ≠ g by omega) D1
        have Z2 := Blk.set_ne (a := ⟨g, k * 3 + 1, none⟩) (v := .int .u64 (tm : Int)) (show w.heap.size + 1 + 1 ≠ g by omega) D2
        have Z3 := Blk.set_ne (a := ⟨g, k * 3 + 1, none⟩) (v := .int .u64 (tm : Int)) (show w.heap.size + 1 + 1 + 1 ≠ g by omega) D3
        have HZ := (HB2).setCell (p := ⟨g, k * 3 + 1, none⟩) (show w.heap.size ≤ g by omega) (.int .u64 (tm : Int))
        clear D0 D1 D2 D3 D4 L2 hfz
        go_meet
        case rel =>
          rw [HM1.out, HM2.out]
          exact ⟨g, c, rfl, hNg, own5, Z0, Z1, Z2, Z3, HZ⟩
      · have hB : addU last beat ≤ tm := by
          rcases hdu with h | h
          · exact h
          · exact absurd h hA
        have hq1 : (addU last beat : Int) ≤ tm := by omega
        by_cases h1l : 1 < l.length
        · have h1' : (1 : Int) < l.length := by omega
          have hq2 : ¬ (addU x.sent wait : Int) ≤ tm := fun h => hA ⟨h1l, by omega⟩
          clear hA hB h1l
          go_wp2_with fail
          refine (later_any x.sent wait _ hts.2.1 hw).mono ?_
          rintro e w2 ⟨rfl, hb⟩
          have HB2 := Below.thn HB1 hb HBs1
          have HBs2 := HB2.size
          have Do := own_below ho hb
          clear C0c C1c C2c C3c C4c C0f C1f C2f C3f C0l C1l C2l C3l C4l
          have D0 := C0.below hb
          have D1 := C1.below hb
          have D2 := C2.below hb
          have D3 := C3.below hb
          have D4 := C4.below hb
          clear C0 C1 C2 C3 C4
          have D0c := D0.cell; have D0f := D0.frozen; have D0l := D0.lt
          have D1c := D1.cell; have D1f := D1.frozen; have D1l := D1.lt
          have D2c := D2.cell; have D2f := D2.frozen; have D2l := D2.lt
          have D3c := D3.cell; have D3f := D3.frozen; have D3l := D3.lt
          have D4c := D4.cell; have D4l := D4.lt
          clear hb
          go_wp2_with fail
          refine (later_any last beat _ hl1 hbt).mono ?_
          rintro e w3 ⟨rfl, hb⟩
          have HB3 := Below.thn HB2 hb HBs2
          have HBs3 := HB3.size
          have Fo := own_below Do hb
          clear D0c D1c D2c D3c D4c D0f D1f D2f D3f D0l D1l D2l D3l D4l
          have F0 := D0.below hb
          have F1 := D1.below hb
          have F2 := D2.below hb
          have F3 := D3.below hb
          have F4 := D4.below hb
          clear D0 D1 D2 D3 D4
          have F0c := F0.cell; have F0f := F0.frozen; have F0l := F0.lt
          have F1c := F1.cell; have F1f := F1.frozen; have F1l := F1.lt
          have F2c := F2.cell; have F2f := F2.frozen; have F2l := F2.lt
          have F3c := F3.cell; have F3f := F3.frozen; have F3l := F3.lt
          have F4c := F4.cell; have F4l := F4.lt
          clear hb
          have L2 := own_cells Fo HKL.out
          have hfz := own_frozen Fo hp.1
          have hne : g ≠ w.heap.size := by omega
          clear hdu
          go_wp2_with fail
          have own5 := own_set (j := k * 3 + 1) Fo (.int .u64 (tm : Int)) hp.1
          have Z0 := Blk.set_ne (a := ⟨g, k * 3 + 1, none⟩) (v := .int .u64 (tm : Int)) (show w.heap.size ≠ g by omega) F0
          have Z1 := Blk.set_ne (a := ⟨g, k * 3 + 1, none⟩) (v := .int .u64 (tm : Int)) (show w.heap.size + 1 ≠ g by omega) F1
          have Z2 := Blk.set_ne (a := ⟨g, k * 3 + 1, none⟩) (v := .int .u64 (tm : Int)) (show w.heap.size + 1 + 1 ≠ g by omega) F2
          have Z3 := Blk.set_ne (a := ⟨g, k * 3 + 1, none⟩) (v := .int .u64 (tm : Int)) (show w.heap.size + 1 + 1 + 1 ≠ g by omega) F3
          have HZ := (HB3).setCell (p := ⟨g, k * 3 + 1, none⟩) (show w.heap.size ≤ g by omega) (.int .u64 (tm : Int))
          clear F0 F1 F2 F3 F4 L2 hfz
          go_meet
          case rel =>
            rw [HM1.out, HM2.out]
            exact ⟨g, c, rfl, hNg, own5, Z0, Z1, Z2, Z3, HZ⟩
        · have h1' : ¬ (1 : Int) < l.length := by omega
          first | omega | skip
          all_goals
            clear hA hB h1l
            go_wp2_with fail
            refine (later_any last beat _ hl1 hbt).mono ?_
            rintro e w3 ⟨rfl, hb⟩
            have HB3 := Below.thn HB1 hb HBs1
            have HBs3 := HB3.size
            have Fo := own_below ho hb
            clear C0c C1c C2c C3c C4c C0f C1f C2f C3f C0l C1l C2l C3l C4l
            have F0 := C0.below hb
            have F1 := C1.below hb
            have F2 := C2.below hb
            have F3 := C3.below hb
            have F4 := C4.below hb
            clear C0 C1 C2 C3 C4
            have F0c := F0.cell; have F0f := F0.frozen; have F0l := F0.lt
            have F1c := F1.cell; have F1f := F1.frozen; have F1l := F1.lt
            have F2c := F2.cell; have F2f := F2.frozen; have F2l := F2.lt
            have F3c := F3.cell; have F3f := F3.frozen; have F3l := F3.lt
            have F4c := F4.cell; have F4l := F4.lt
            clear hb
            have L2 := own_cells Fo HKL.out
            have hfz := own_frozen Fo hp.1
            have hne : g ≠ w.heap.size := by omega
            clear hdu
            go_wp2_with fail
            have own5 := own_set (j := k * 3 + 1) Fo (.int .u64 (tm : Int)) hp.1
            have Z0 := Blk.set_ne (a := ⟨g, k * 3 + 1, none⟩) (v := .int .u64 (tm : Int)) (show w.heap.size ≠ g by omega) F0
            have Z1 := Blk.set_ne (a := ⟨g, k * 3 + 1, none⟩) (v := .int .u64 (tm : Int)) (show w.heap.size + 1 ≠ g by omega) F1
            have Z2 := Blk.set_ne (a := ⟨g, k * 3 + 1, none⟩) (v := .int .u64 (tm : Int)) (show w.heap.size + 1 + 1 ≠ g by omega) F2
            have Z3 := Blk.set_ne (a := ⟨g, k * 3 + 1, none⟩) (v := .int .u64 (tm : Int)) (show w.heap.size + 1 + 1 + 1 ≠ g by omega) F3
            have HZ := (HB3).setCell (p := ⟨g, k * 3 + 1, none⟩) (show w.heap.size ≤ g by omega) (.int .u64 (tm : Int))
            clear F0 F1 F2 F3 F4 L2 hfz
            go_meet
            case rel =>
              rw [HM1.out, HM2.out]
              exact ⟨g, c, rfl, hNg, own5, Z0, Z1, Z2, Z3, HZ⟩
  case rest =>
    clear ho C0 C1 C2 C3 C4 C0c C1c C2c C3c C4c C0f C1f C2f C3f C0l C1l C2l C3l C4l hlt HB1 HBs1
    obtain ⟨g, c, rfl, hNg, ho, B0, B1, B2, B3, HB⟩ := hcut
    have hns : (0 < (nextL l now tm).length ∧ (nextL l now tm).length ≤ 8) ∧ SmallL (nextL l now tm) := by
      have hm : (0 < (mL l now).length ∧ (mL l now).length ≤ 8) ∧ SmallL (mL l now) := more_small hp hsm hl2 hnum
      refine ⟨by rw [nextL_length]; exact hm.1, ?_⟩
      rw [nextL_mL]
      intro j hj
      rw [List.length_set] at hj
      by_cases e : (mL l now).length - 1 = j
      · have : ((mL l now).set ((mL l now).length - 1) { topS (mL l now) with sent := tm }).getD j default = { topS (mL l now) with sent := tm } := by subst e; simp [List.getD, hj]
        rw [this]
        have := hm.2 ((mL l now).length - 1) (by omega)
        exact ⟨this.1, htm, this.2.2⟩
      · have : ((mL l now).set ((mL l now).length - 1) { topS (mL l now) with sent := tm }).getD j default = (mL l now).getD j default := by simp [List.getD, List.getElem?_set_ne e]
        rw [this]; exact hm.2 j hj
    obtain ⟨hn8, hnsm⟩ := hns
    have HNN := Lib.hid hd
    clear hd hsm hts ha1 ha2
    obtain ⟨y0, hy0⟩ : ∃ y, (nextL l now tm).getD 0 default = y := ⟨_, rfl⟩
    obtain ⟨yt, hyt⟩ : ∃ y, topS (nextL l now tm) = y := ⟨_, rfl⟩
    obtain ⟨q, hq⟩ : ∃ q, q = (nextL l now tm).length - 1 := ⟨_, rfl⟩
    have hyq : (nextL l now tm).getD q default = yt := by rw [hq]; exact hyt
    have H0 := Lib.hid hy0; have HT2 := Lib.hid hyt
    obtain ⟨m, hm⟩ : ∃ m, (nextL l now tm).length = m := ⟨_, rfl⟩
    have HM := Lib.hid hm
    obtain ⟨g3, c3, h3, _, hcc, hcm2, L6⟩ := list_of_own55 ho hn8 hnsm
    simp only [Value.slice.injEq, Option.some.injEq, Addr.mk.injEq, true_and, and_true] at h3
    obtain ⟨rfl, rfl⟩ := h3
    have hz0 := L6.c0 0 hn8.1; have hz1' := L6.c1 0 hn8.1; have hz2' := L6.c2 0 hn8.1
    have ht0 := L6.c0 q (by omega); have ht1 := L6.c1 q (by omega); have ht2 := L6.c2 q (by omega)
    rw [hy0] at hz0 hz1' hz2'
    rw [hyq] at ht0 ht1 ht2
    simp only [Nat.zero_mul, Nat.zero_add] at hz0 hz1' hz2' ht0 ht1 ht2
    obtain ⟨cur, hcur⟩ : ∃ cur, Blk wc g cur 55 := by
      rcases ho.2 with ⟨_, h5⟩ | ⟨bq, capq, cur, h5, _, h7, _⟩
      · omega
      · simp only [Value.slice.injEq, Option.some.injEq, Addr.mk.injEq] at h5
        obtain ⟨⟨rfl, _, _⟩, _, rfl⟩ := h5
        exact ⟨cur, ⟨h7⟩⟩
    have cg : ∀ W, Blk W g cur 55 → ∀ o, W.cell? ⟨g, o, none⟩ = wc.cell? ⟨g, o, none⟩ := fun W hW o => by rw [hW.cell, hcur.cell]
    have kf : ∀ W, Blk W g cur 55 → RefAt W (QV (.slice (some ⟨g, 0, none⟩) m c) now tm) (nextL l now tm) now tm := fun W hW =>
      ⟨g, 0, c, by rw [hm], hcc, hcm2, ⟨hW.lt, fun j hj => (cg W hW _).trans (L6.c0 j hj), fun j hj => (cg W hW _).trans (L6.c1 j hj), fun j hj => (cg W hW _).trans (L6.c2 j hj), hnsm, hn8⟩, htm, hl2⟩
    have kp : ∀ W, Blk W w.heap.size #[.slice (some ⟨g, 0, none⟩) m c, .string now, .int .u64 tm] 50 → Blk W g cur 55 →
        ((W.cell? ⟨w.heap.size, 0, none⟩ = some (.slice (some ⟨g, 0, none⟩) m c) ∧ W.cell? ⟨w.heap.size, 1, none⟩ = some (.string now) ∧ W.cell? ⟨w.heap.size, 2, none⟩ = some (.int .u64 tm)) ∧
        (W.cell? ⟨g, 0, none⟩ = some (.int .u64 y0.num) ∧ W.cell? ⟨g, 1, none⟩ = some (.int .u64 y0.sent) ∧ W.cell? ⟨g, 2, none⟩ = some (.string y0.val)) ∧
        (W.cell? ⟨g, q * 3, none⟩ = some (.int .u64 yt.num) ∧ W.cell? ⟨g, q * 3 + 1, none⟩ = some (.int .u64 yt.sent) ∧ W.cell? ⟨g, q * 3 + 2, none⟩ = some (.string yt.val))) := fun W h0 hg =>
      ⟨⟨(h0.cell 0).trans rfl, (h0.cell 1).trans rfl, (h0.cell 2).trans rfl⟩, ⟨(cg W hg _).trans hz0, (cg W hg _).trans hz1', (cg W hg _).trans hz2'⟩, (cg W hg _).trans ht0, (cg W hg _).trans ht1, (cg W hg _).trans ht2⟩
    have KP := Lib.hid kp; have KF := Lib.hid kf; have HO := Lib.hid ho
    have hm8 : 0 < m ∧ m ≤ 8 := by omega
    have hq2 : (m : Int) - 1 = (q : Int) := by omega
    have hql : (q : Int) < m := by omega
    have hm0 : (0 : Int) < m := by omega
    have hq0 : (0 : Int) ≤ q := by omega
    have hwq : IntKind.i64.wrap (q : Int) = (q : Int) := by simp [IntKind.wrap, IntKind.bits, IntKind.signed]; omega
    have hwm : IntKind.i64.wrap ((m : Int) - 1) = (q : Int) := by rw [hq2]; exact hwq
    have hqn : ¬ (q : Int) < 0 := by omega
    have hqm : ¬ (m : Int) ≤ q := by omega
    rw [hm]
    have B0c := B0.cell; have B0f := B0.frozen; have B0l := B0.lt; have hgl := hcur.lt
    have hgw : g ≠ w.heap.size := by omega
    clear kp kf ho hz0 hz1' hz2' ht0 ht1 ht2 cg L6 hy0 hyt hyq hq hn8 hnsm hm hdd
    go_upto_region 11 with fail
    have D0 : Blk ((wc.setCell ⟨w.heap.size, 0, none⟩ (.slice (some ⟨g, 0, none⟩) m c)).setCell ⟨w.heap.size, 2, none⟩ (.int .u64 tm)) w.heap.size #[.slice (some ⟨g, 0, none⟩) m c, .string now, .int .u64 tm] 50 := B0.set.set.conv rfl
    have D1 := Blk.set_ne (a := ⟨w.heap.size, 2, none⟩) (v := .int .u64 tm) (by simp) (Blk.set_ne (a := ⟨w.heap.size, 0, none⟩) (v := .slice (some ⟨g, 0, none⟩) m c) (by simp) B1)
    have D2 := Blk.set_ne (a := ⟨w.heap.size, 2, none⟩) (v := .int .u64 tm) (show w.heap.size + 1 + 1 ≠ w.heap.size by omega) (Blk.set_ne (a := ⟨w.heap.size, 0, none⟩) (v := .slice (some ⟨g, 0, none⟩) m c) (show w.heap.size + 1 + 1 ≠ w.heap.size by omega) B2)
    have D3 := Blk.set_ne (a := ⟨w.heap.size, 2, none⟩) (v := .int .u64 tm) (show w.heap.size + 1 + 1 + 1 ≠ w.heap.size by omega) (Blk.set_ne (a := ⟨w.heap.size, 0, none⟩) (v := .slice (some ⟨g, 0, none⟩) m c) (show w.heap.size + 1 + 1 + 1 ≠ w.heap.size by omega) B3)
    have Dg := Blk.set_ne (a := ⟨w.heap.size, 2, none⟩) (v := .int .u64 tm) hgw (Blk.set_ne (a := ⟨w.heap.size, 0, none⟩) (v := .slice (some ⟨g, 0, none⟩) m c) hgw hcur)
    have HD := (HB.setCell (p := ⟨w.heap.size, 0, none⟩) (Nat.le_refl _) (.slice (some ⟨g, 0, none⟩) m c)).setCell (p := ⟨w.heap.size, 2, none⟩) (Nat.le_refl _) (.int .u64 tm)
    generalize (wc.setCell ⟨w.heap.size, 0, none⟩ (.slice (some ⟨g, 0, none⟩) m c)).setCell ⟨w.heap.size, 2, none⟩ (.int .u64 tm) = E at *
    clear B0 B1 B2 B3 B0c B0f B0l hcur HB hgl
    have HDs := HD.size
    have D1c := D1.cell; have D1f := D1.frozen; have D1l := D1.lt
    have D2c := D2.cell; have D2f := D2.frozen; have D2l := D2.lt
    have D3c := D3.cell; have D3f := D3.frozen; have D3l := D3.lt
    go_wp2_with fail
    go_region_held3 (fun W => (W.cell? ⟨w.heap.size, 0, none⟩ = some (.slice (some ⟨g, 0, none⟩) m c) ∧ W.cell? ⟨w.heap.size, 1, none⟩ = some (.string now) ∧ W.cell? ⟨w.heap.size, 2, none⟩ = some (.int .u64 tm)) ∧
        (W.cell? ⟨g, 0, none⟩ = some (.int .u64 y0.num) ∧ W.cell? ⟨g, 1, none⟩ = some (.int .u64 y0.sent) ∧ W.cell? ⟨g, 2, none⟩ = some (.string y0.val)) ∧
        (W.cell? ⟨g, q * 3, none⟩ = some (.int .u64 yt.num) ∧ W.cell? ⟨g, q * 3 + 1, none⟩ = some (.int .u64 yt.sent) ∧ W.cell? ⟨g, q * 3 + 2, none⟩ = some (.string yt.val)))
      (exact KP.out _ (by (repeat (first | (with_reducible assumption) | (with_reducible apply Blk.new'; (first | (with_reducible rfl) | (simp; done))) | with_reducible apply Blk.alloc | with_reducible apply Blk.set | ((with_reducible apply Blk.set_ne); focus (first | (simp; done) | (simp; omega))) | with_reducible apply Blk.drewN | with_reducible apply Blk.drew))) (by (repeat (first | (with_reducible assumption) | (with_reducible apply Blk.new'; (first | (with_reducible rfl) | (simp; done))) | with_reducible apply Blk.alloc | with_reducible apply Blk.set | ((with_reducible apply Blk.set_ne); focus (first | (simp; done) | (simp; omega))) | with_reducible apply Blk.drewN | with_reducible apply Blk.drew)))) (fail)
    all_goals
      go_wp2
      refine bodyPost_ret (v := .tuple #[QV (.slice (some ⟨g, 0, none⟩) m c) now tm, StV y0, StV yt, .bool true]) ?_ rfl ⟨QV (.slice (some ⟨g, 0, none⟩) m c) now tm, ?_, KF.out _ (by (repeat (first | (with_reducible assumption) | (with_reducible apply Blk.new'; (first | (with_reducible rfl) | (simp; done))) | with_reducible apply Blk.alloc | with_reducible apply Blk.set | ((with_reducible apply Blk.set_ne); focus (first | (simp; done) | (simp; omega))) | with_reducible apply Blk.drewN | with_reducible apply Blk.drew))), by (repeat (first | (with_reducible assumption) | (with_reducible exact Below.refl _ _) | with_reducible apply bl_drewN | with_reducible apply Below.drew | (with_reducible apply bl_alloc; focus (first | (simp; done) | (simp; omega) | omega)) | (with_reducible apply bl_set; focus (first | (simp; done) | (simp; omega) | omega))))⟩
      · first | (simp [results, Try.results20, go_sem, D1c, D2c, D3c]; done) | simp [results, Try.results20, go_sem, D1c, D1l, D2c, D2l, D3c, D3l]
      · rw [H0.out, HT2.out]
end Go.Proofs.Ytpnbmfpdoipioaa
