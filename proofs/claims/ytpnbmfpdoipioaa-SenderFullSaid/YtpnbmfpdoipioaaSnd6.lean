/- Next. -/
import Derived.Test.YtpnbmfpdoipioaaSnd5
import Derived.Deep.RegionHeld3
import Derived.Deep.RegionLaw
import Derived.Deep.DeepCutAuto
namespace Go.Proofs.Ytpnbmfpdoipioaa
open Go.RowKit

abbrev IV (a b c d : Int) (s : ByteArray) : Value := .agg #[.int .u64 a, .int .u64 b, .int .u64 c, .int .u64 d, .string s]
set_option maxHeartbeats 1000000 in
set_option maxRecDepth 20000 in
theorem next_not (v : Value) (l : List SSt) (now : ByteArray) (last tm wait beat ack : Nat) (w : World) (S : SenderAt w v l now last) (hw : wait ≤ 18446744073709551615) (hb : beat ≤ 18446744073709551615) (hd : tm < dueU l now last wait beat) :
    Calls Try.prog 12 #[v, .int .u64 tm, .int .u64 wait, .int .u64 beat, .int .u64 ack] w fun e w' => e = .returned (.tuple #[v, IV 0 0 0 0 ⟨#[]⟩, .bool false]) ∧ Below w.heap.size w w' := by
  obtain ⟨b, off, cap, rfl, hcap, hcm, L, hl1, hl2⟩ := S
  have hd' : (tm : Int) < (dueU l now last wait beat : Nat) := by omega
  have hbl := L.lt
  go_enter Try.func12, Try.ntmps12
  go_wp2_with fail
  refine (due_any b off cap last wait beat l now _ (L.below (by (repeat (first | (with_reducible assumption) | (with_reducible exact Below.refl _ _) | with_reducible apply bl_drewN | with_reducible apply Below.drew | (with_reducible apply bl_alloc; focus (first | (simp; done) | (simp; omega) | omega)) | (with_reducible apply bl_set; focus (first | (simp; done) | (simp; omega) | omega)))))) hl1 hw hb).mono ?_
  rintro e w1 ⟨rfl, hb⟩
  have HB : Below w.heap.size w w1 := Below.thn (by (repeat (first | (with_reducible assumption) | (with_reducible exact Below.refl _ _) | with_reducible apply bl_drewN | with_reducible apply Below.drew | (with_reducible apply bl_alloc; focus (first | (simp; done) | (simp; omega) | omega)) | (with_reducible apply bl_set; focus (first | (simp; done) | (simp; omega) | omega))))) hb
  have HBs := HB.size
  have B0 := Blk.below (b := w.heap.size) (t := 31) (by (repeat (first | (with_reducible assumption) | (with_reducible apply Blk.new'; (first | (with_reducible rfl) | (simp; done))) | with_reducible apply Blk.alloc | with_reducible apply Blk.set | ((with_reducible apply Blk.set_ne); focus (first | (simp; done) | (simp; omega))) | with_reducible apply Blk.drewN | with_reducible apply Blk.drew))) hb
  have B0c := B0.cell; have B0f := B0.frozen; have B0l := B0.lt
  have B1 := Blk.below (b := w.heap.size+1) (t := 31) (by (repeat (first | (with_reducible assumption) | (with_reducible apply Blk.new'; (first | (with_reducible rfl) | (simp; done))) | with_reducible apply Blk.alloc | with_reducible apply Blk.set | ((with_reducible apply Blk.set_ne); focus (first | (simp; done) | (simp; omega))) | with_reducible apply Blk.drewN | with_reducible apply Blk.drew))) hb
  have B1c := B1.cell; have B1f := B1.frozen; have B1l := B1.lt
  have B2 := Blk.below (b := w.heap.size+1+1) (t := 38) (by (repeat (first | (with_reducible assumption) | (with_reducible apply Blk.new'; (first | (with_reducible rfl) | (simp; done))) | with_reducible apply Blk.alloc | with_reducible apply Blk.set | ((with_reducible apply Blk.set_ne); focus (first | (simp; done) | (simp; omega))) | with_reducible apply Blk.drewN | with_reducible apply Blk.drew))) hb
  have B2c := B2.cell; have B2f := B2.frozen; have B2l := B2.lt
  clear hb
  go_wp2
  refine bodyPost_ret (v := .tuple #[SV (.slice (some ⟨b, off, none⟩) l.length cap) now last, IV 0 0 0 0 ⟨#[]⟩, .bool false]) ?_ rfl ⟨rfl, ?_⟩
  · first | (simp [results, Try.results12, go_sem, B1c, B2c]; done) | simp [results, Try.results12, go_sem, B1c, B1l, B2c, B2l]
  · repeat (first | (with_reducible assumption) | (with_reducible exact Below.refl _ _) | with_reducible apply bl_drewN | with_reducible apply Below.drew | (with_reducible apply bl_alloc; focus (first | (simp; done) | (simp; omega) | omega)) | (with_reducible apply bl_set; focus (first | (simp; done) | (simp; omega) | omega)))
theorem blk_grown {W w' : World} {b : Nat} {cs : Array Value} {t : TypeId} {row : Option Nat} (B : Blk W b cs t) (hg : W.grownBy w' row) (h : some b ≠ row) : Blk w' b cs t := ⟨(hg.block b B.lt h).trans B.out⟩
theorem own_below {w w' : World} {base : Nat} {e : TypeId} {size : Nat} {v : Value} {m : Nat} {xs : List Value} (h : w.ownsRow base e size v m xs) (g : Below w.heap.size w w') : w'.ownsRow base e size v m xs := own_low h g (fun q hq => (h.lt q hq).2)
theorem own_keepH {w w' : World} {base e size n g c : Nat} {xs : List Value} (h : w.ownsRow base e size (.slice (some ⟨g, 0, none⟩) n c) n xs) (k : w'.heap[g]? = w.heap[g]?) : w'.ownsRow base e size (.slice (some ⟨g, 0, none⟩) n c) n xs :=
  ⟨h.1, by
    rcases h.2 with h5 | ⟨b, c2, cur, h5, h6, h7, h8⟩
    · exact Or.inl h5
    · have h9 := h5
      simp only [Value.slice.injEq, Option.some.injEq, Addr.mk.injEq] at h9
      obtain ⟨⟨rfl, _, _⟩, _, _⟩ := h9
      exact Or.inr ⟨g, c2, cur, h5, h6, k.trans h7, h8⟩⟩
def NextPost (l : List SSt) (now : ByteArray) (tm ack : Nat) (w : World) (e : Ending) (w' : World) : Prop :=
  ∃ v, e = .returned (.tuple #[v, IV ((nextL l now tm).getD 0 default).num (topS (nextL l now tm)).num ack ((nextL l now tm).getD 0 default).num (((nextL l now tm).getD 0 default).val ++ ⟨#[62]⟩ ++ (topS (nextL l now tm)).val), .bool true]) ∧
    SenderAt w' v (nextL l now tm) now tm ∧ Below w.heap.size w w'
def moreL (l : List SSt) (now : ByteArray) : List SSt := if freshB l now = true then l ++ [⟨(topS l).num + 1, 0, now⟩] else l
theorem nextL_eq (l : List SSt) (now : ByteArray) (tm : Nat) : nextL l now tm = (moreL l now).set ((moreL l now).length - 1) { topS (moreL l now) with sent := tm } := rfl

/-- What holds where the list has been cloned, and one more put behind it. -/
def MoreRel (w : World) (N : Nat) (m : List SSt) (now : ByteArray) (last : Nat) (wx : World) : Prop := ∃ (g c : Nat), N ≤ g ∧ Blk wx w.heap.size #[fDiff, fSame, .slice (some ⟨g, 0, none⟩) m.length c, .string now, .int .u64 last] 31 ∧
    Blk wx (w.heap.size + 1) #[.nilFunc, .nilFunc, .slice none 0 0, .string ⟨#[]⟩, .int .u64 0] 31 ∧ Blk wx (w.heap.size + 1 + 1) #[.int .u64 0, .int .u64 0, .int .u64 0, .int .u64 0, .string ⟨#[]⟩] 38 ∧
    wx.ownsRow N 70 3 (.slice (some ⟨g, 0, none⟩) m.length c) m.length (sCells m) ∧ Below w.heap.size w wx
theorem more_rel {w W4 w9 w5 : World} {N g c g2 c2 : Nat} {l m : List SSt} {now : ByteArray} {last : Nat} {O : Obj} (hg : N ≤ g) (hbw : w.heap.size + 1 + 1 < N) (hN : N ≤ W4.heap.size)
    (B0 : Blk W4 w.heap.size #[fDiff, fSame, .slice (some ⟨g, 0, none⟩) l.length c, .string now, .int .u64 last] 31)
    (B1 : Blk W4 (w.heap.size + 1) #[.nilFunc, .nilFunc, .slice none 0 0, .string ⟨#[]⟩, .int .u64 0] 31) (B2 : Blk W4 (w.heap.size + 1 + 1) #[.int .u64 0, .int .u64 0, .int .u64 0, .int .u64 0, .string ⟨#[]⟩] 38) (HB : Below w.heap.size w W4)
    (hb : Below W4.drew.heap.size W4.drew w9) (hg5 : (w9.alloc O).grownBy w5 (Value.slice (some ⟨g, 0, none⟩) l.length c).ownBlock) (hm1 : m.length = l.length + 1) (cs : List Value) (hm2 : sCells m = cs)
    (ho5 : w5.ownsRow N 70 3 (.slice (some ⟨g2, 0, none⟩) (l.length + 1) c2) (l.length + 1) cs) : MoreRel w N m now last (w5.setCell ⟨w.heap.size, 2, none⟩ (.slice (some ⟨g2, 0, none⟩) (l.length + 1) c2)) := by
  have hs := hb.size
  have hs2 : W4.drew.heap.size = W4.heap.size := rfl
  have ne : ∀ k, k < N → some k ≠ (Value.slice (some ⟨g, 0, none⟩) l.length c).ownBlock := fun k hk e => by simp only [Value.ownBlock, Option.some.injEq] at e; omega
  have C0 := blk_grown ((B0.drew.below hb).alloc) hg5 (ne _ (by omega))
  have C1 := blk_grown ((B1.drew.below hb).alloc) hg5 (ne _ (by omega))
  have C2 := blk_grown ((B2.drew.below hb).alloc) hg5 (ne _ (by omega))
  have hb2 : Below w.heap.size w w9 := Below.thn (HB.drew) hb (by omega)
  have hsz : (w9.alloc O).heap.size = w9.heap.size + 1 := by simp
  refine ⟨g2, c2, (ho5.lt g2 rfl).1, ?_, Blk.set_ne (by simp) C1, Blk.set_ne (by simp; omega) C2, ?_, ((hb2.alloc (by omega) O).grown hg5 (by omega) (fun q hq => by simp only [Value.ownBlock, Option.some.injEq] at hq; omega)).setCell (p := ⟨w.heap.size, 2, none⟩) (Nat.le_refl _) _⟩
  · rw [hm1]; exact C0.set.conv rfl
  · rw [hm1, hm2]; exact ownsRow_setCell_below ho5 (a := ⟨w.heap.size, 2, none⟩) (by simp; omega) _

theorem more_small {l : List SSt} {now : ByteArray} (hp : 0 < l.length ∧ l.length ≤ 8) (hsm : SmallL l) (hl2 : now.size ≤ 1000) (hnum : (topS l).num < 1000000) : (0 < (moreL l now).length ∧ (moreL l now).length ≤ 8) ∧ SmallL (moreL l now) := by
  unfold moreL
  split
  · rename_i h
    have h8 : l.length < 8 := by
      unfold freshB at h
      simp at h
      exact h.2
    refine ⟨by simp; omega, fun j hj => ?_⟩
    by_cases e : j < l.length
    · have : (l ++ [(⟨(topS l).num + 1, 0, now⟩ : SSt)]).getD j default = l.getD j default := by simp [List.getD, List.getElem?_append_left e]
      rw [this]; exact hsm j e
    · have e2 : j = l.length := by simp at hj; omega
      have : (l ++ [(⟨(topS l).num + 1, 0, now⟩ : SSt)]).getD j default = ⟨(topS l).num + 1, 0, now⟩ := by subst e2; simp [List.getD]
      rw [this]; exact ⟨by show (topS l).num + 1 ≤ 1000000; omega, Nat.zero_le _, hl2⟩
  · exact ⟨hp, hsm⟩
set_option maxHeartbeats 4000000 in
set_option maxRecDepth 20000 in
theorem next_ok (v : Value) (l : List SSt) (now : ByteArray) (last tm wait beat ack : Nat) (w : World) (S : SenderAt w v l now last) (hw : wait ≤ 18446744073709551615) (hb : beat ≤ 18446744073709551615) (htm : tm ≤ 18446744073709551615) (hnum : (topS l).num < 1000000) (hd : ¬ tm < dueU l now last wait beat) :
    Calls Try.prog 12 #[v, .int .u64 tm, .int .u64 wait, .int .u64 beat, .int .u64 ack] w fun e w' => NextPost l now tm ack w e w' := by
  obtain ⟨b, off, cap, rfl, hcap, hcm, L, hl1, hl2⟩ := S
  obtain ⟨i0, hi0, hz0, hz1, hz2⟩ := info_parts info70
  have hd' : ¬ (tm : Int) < (dueU l now last wait beat : Nat) := by omega
  have hbl := L.lt
  have hp := L.pos
  have hts := top_small L
  have hsm := L.small
  go_enter Try.func12, Try.ntmps12
  go_wp2_with fail
  refine (due_any b off cap last wait beat l now _ (L.below (by (repeat (first | (with_reducible assumption) | (with_reducible exact Below.refl _ _) | with_reducible apply bl_drewN | with_reducible apply Below.drew | (with_reducible apply bl_alloc; focus (first | (simp; done) | (simp; omega) | omega)) | (with_reducible apply bl_set; focus (first | (simp; done) | (simp; omega) | omega)))))) hl1 hw hb).mono ?_
  rintro e w1 ⟨rfl, hb⟩
  have HB : Below w.heap.size w w1 := Below.thn (by (repeat (first | (with_reducible assumption) | (with_reducible exact Below.refl _ _) | with_reducible apply bl_drewN | with_reducible apply Below.drew | (with_reducible apply bl_alloc; focus (first | (simp; done) | (simp; omega) | omega)) | (with_reducible apply bl_set; focus (first | (simp; done) | (simp; omega) | omega))))) hb
  have HBs := HB.size
  have B0 := Blk.below (b := w.heap.size) (t := 31) (by (repeat (first | (with_reducible assumption) | (with_reducible apply Blk.new'; (first | (with_reducible rfl) | (simp; done))) | with_reducible apply Blk.alloc | with_reducible apply Blk.set | ((with_reducible apply Blk.set_ne); focus (first | (simp; done) | (simp; omega))) | with_reducible apply Blk.drewN | with_reducible apply Blk.drew))) hb
  have B0c := B0.cell; have B0f := B0.frozen; have B0l := B0.lt
  have B1 := Blk.below (b := w.heap.size+1) (t := 31) (by (repeat (first | (with_reducible assumption) | (with_reducible apply Blk.new'; (first | (with_reducible rfl) | (simp; done))) | with_reducible apply Blk.alloc | with_reducible apply Blk.set | ((with_reducible apply Blk.set_ne); focus (first | (simp; done) | (simp; omega))) | with_reducible apply Blk.drewN | with_reducible apply Blk.drew))) hb
  have B1c := B1.cell; have B1f := B1.frozen; have B1l := B1.lt
  have B2 := Blk.below (b := w.heap.size+1+1) (t := 38) (by (repeat (first | (with_reducible assumption) | (with_reducible apply Blk.new'; (first | (with_reducible rfl) | (simp; done))) | with_reducible apply Blk.alloc | with_reducible apply Blk.set | ((with_reducible apply Blk.set_ne); focus (first | (simp; done) | (simp; omega))) | with_reducible apply Blk.drewN | with_reducible apply Blk.drew))) hb
  have B2c := B2.cell; have B2f := B2.frozen; have B2l := B2.lt
  clear hb
  have L1 := L.below HB
  have hbl1 := L1.lt
  clear hd
  go_wp2_with fail
  refine (fresh_any b off cap last l now _ L1).mono ?_
  rintro e w2 ⟨rfl, hb⟩
  have HB2 := Below.thn HB hb HBs
  have HBs2 := HB2.size
  have L2 := L1.below hb
  have hs12 := hb.size
  have B02 := B0.below hb
  have B12 := B1.below hb
  have B22 := B2.below hb
  clear B0 B0c B0f B1 B1c B1f B2 B2c B2f L1 L hb HB HBs hd'
  have B0c := B02.cell; have B0f := B02.frozen
  obtain ⟨d, hd⟩ : ∃ d, freshB l now = d := ⟨_, rfl⟩
  rw [hd]
  have HD := Lib.hid hd
  clear hd
  go_wp2_with fail
  refine (clone_any b off cap l _ L2).mono ?_
  rintro e w3 ⟨v, rfl, ho, hb⟩
  have HB3 := Below.thn HB2 hb HBs2
  have HBs3 := HB3.size
  have B03 := B02.below hb
  have B13 := B12.below hb
  have B23 := B22.below hb
  have hs23 := hb.size
  clear B02 B12 B22 B0c B0f L2 hb HB2
  have B0c := B03.cell; have B0f := B03.frozen
  obtain ⟨g, c, rfl, hg, hgl, _⟩ := own_reads ho hp.1
  have B0l2 := B03.lt
  go_upto_if 30 with fail
  have B04 : Blk (w3.setCell ⟨w.heap.size, 2, none⟩ (.slice (some ⟨g, 0, none⟩) l.length c)) w.heap.size #[fDiff, fSame, .slice (some ⟨g, 0, none⟩) l.length c, .string now, .int .u64 last] 31 := B03.set.conv rfl
  have B14 := Blk.set_ne (a := ⟨w.heap.size, 2, none⟩) (v := .slice (some ⟨g, 0, none⟩) l.length c) (by simp) B13
  have B24 := Blk.set_ne (a := ⟨w.heap.size, 2, none⟩) (v := .slice (some ⟨g, 0, none⟩) l.length c) (by simp; omega) B23
  have ho4 := ownsRow_setCell_below ho (a := ⟨w.heap.size, 2, none⟩) (by simp; omega) (.slice (some ⟨g, 0, none⟩) l.length c)
  have HB4 := HB3.setCell (p := ⟨w.heap.size, 2, none⟩) (Nat.le_refl _) (.slice (some ⟨g, 0, none⟩) l.length c)
  generalize w3.setCell ⟨w.heap.size, 2, none⟩ (.slice (some ⟨g, 0, none⟩) l.length c) = W4 at *
  have hw24 : w2.heap.size < W4.heap.size := Nat.lt_of_le_of_lt hg (ho4.lt g rfl).2
  have hbw : w.heap.size + 1 + 1 < w2.heap.size := by
    have := B2l
    omega
  clear B03 B13 B23 ho HB3 B0c B0f
  go_cut [] (fun wx => MoreRel w w2.heap.size (moreL l now) now last wx)
  case first =>
    have hml : moreL l now = if d = true then l ++ [⟨(topS l).num + 1, 0, now⟩] else l := by unfold moreL; rw [HD.out]
    cases d with
    | false =>
      go_wp2_with fail
      go_meet
      case rel =>
        rw [if_neg (by simp)] at hml
        rw [hml]
        exact ⟨g, c, hg, B04, B14, B24, ho4, HB4⟩
    | true =>
      rw [if_pos rfl] at hml
      have l7 : l.length < 8 := by
        have := HD.out
        unfold freshB at this
        simp at this
        exact this.2
      have hml1 : (moreL l now).length = l.length + 1 := by rw [hml]; simp
      have hml2 : sCells (moreL l now) = sCells l ++ [.int .u64 (((topS l).num : Int) + 1), .int .u64 0, .string now] := by rw [hml, sCells_snoc]; rfl
      have HML1 := Lib.hid hml1
      have HML2 := Lib.hid hml2
      obtain ⟨g4, c4, h4, _, L4⟩ := list_of_own ho4 hp hsm
      simp only [Value.slice.injEq, Option.some.injEq, Addr.mk.injEq, true_and, and_true] at h4
      obtain ⟨rfl, rfl⟩ := h4
      have L4d : ListAt W4.drew g 0 l := L4.below (Below.refl _ _).drew
      have ho4d : W4.drew.ownsRow w2.heap.size 70 3 (.slice (some ⟨g, 0, none⟩) l.length c) l.length (sCells l) := own_below ho4 (Below.refl _ _).drew
      have B04d := B04.drew
      have B04c := B04.cell; have B04f := B04.frozen
      have B04dc := B04d.cell; have B04df := B04d.frozen
      have hwd : W4.drew.heap.size = W4.heap.size := rfl
      clear hml hml1 hml2 L4
      have hf0 := fun W => run_fld0 ((topS l).num : Int) ((topS l).sent : Int) (topS l).val W
      go_wp2_with fail
      have hwr : IntKind.u64.wrap (((topS l).num : Int) + 1) = ((topS l).num : Int) + 1 := by simp [IntKind.wrap, IntKind.bits, IntKind.signed]; omega
      have hone : ∀ u ∈ ([.int .u64 (((topS l).num : Int) + 1), .int .u64 0, .string now] : List Value), u.oneCell' = true := by simp [Value.oneCell']
      have hm1 : l.length + 1 ≤ maxLen := by unfold maxLen; omega
      have hm2 : (l.length + 1) * 32 ≤ 140737488355328 := by omega
      have hw2d : w2.heap.size ≤ W4.drew.heap.size := by omega
      have hneg : some w.heap.size ≠ (Value.slice (some ⟨g, 0, none⟩) l.length c).ownBlock := fun e => by simp only [Value.ownBlock, Option.some.injEq] at e; omega
      have H4 := Lib.hid ho4; have H40 := Lib.hid B04; have H41 := Lib.hid B14; have H42 := Lib.hid B24; have H4B := Lib.hid HB4
      clear hsm hp hts ho4 B14 B24 HB4 hs12 hs23 B0l B1l B2l hbl1 hbl
      go_region_law (first
        | (refine step_append_lies _ rfl (.tmp 32) (.tmp 40) 28 rfl w2.heap.size 70 i0 _ 3 32 Try.underlying28 hi0 hz0 hz1 hz2 rfl (by decide) (.slice (some ⟨g, 0, none⟩) l.length c) l.length (sCells l) rfl ((own_below ho4d hb9).alloc _) ⟨w9.heap.size, 0, none⟩ 1 1 [.int .u64 (((topS l).num : Int) + 1), .int .u64 0, .string now] rfl rfl (World.news_of_block (heap_alloc_new w9 _)) hone (by decide) hm1 hm2 (Nat.le_trans hw9 (Nat.le_trans (Nat.le_succ _) (by simp))) _ rfl ?_; intro g2 c2 w5 ho5 hg5 hl5 hlt5; have hB5 := blk_grown (((B04d.below hb9)).alloc) hg5 hneg; have hB5c := hB5.cell; have hB5f := hB5.frozen)
        | (go_simp; go_wp2_with (go_at_call 33; refine (newest_any g 0 c last l now _ L4d).mono ?_; rintro e w9 ⟨rfl, hb9⟩; have hB9 := B04d.below hb9; have hB9c := hB9.cell; have hB9f := hB9.frozen; have hB9l := hB9.lt; have hw9 := Nat.le_trans hw2d hb9.size)))
      all_goals
        have R := Lib.hid (more_rel hg hbw (Nat.le_of_lt hw24) H40.out H41.out H42.out H4B.out hb9 hg5 HML1.out _ HML2.out ho5)
        clear ho5 hg5 hl5 hlt5 hB5 hB5c hB5f hB9 hB9c hB9f hb9 B04d B04c B04f B04dc B04df hone
        go_wp2_with fail
        go_meet
        case rel => exact R.out
  case rest =>
    have hmm := more_small hp hsm hl2 hnum
    clear B04 B14 B24 ho4 HB4 hw24 hsm hp hts
    obtain ⟨g2, c2, hg2, B0, B1, B2, ho, HB⟩ := hcut
    have hnx := nextL_eq l now tm
    generalize moreL l now = m at *
    obtain ⟨hm8, hmsm⟩ := hmm
    obtain ⟨k, hk⟩ : ∃ k, m.length = k + 1 := ⟨m.length - 1, by omega⟩
    have hk2 : (m.length : Int) - 1 = (k : Int) := by omega
    have hkl : (k : Int) < m.length := by omega
    obtain ⟨g3, c3, h3, _, L⟩ := list_of_own ho hm8 hmsm
    simp only [Value.slice.injEq, Option.some.injEq, Addr.mk.injEq, true_and, and_true] at h3
    obtain ⟨rfl, rfl⟩ := h3
    have hx1 := L.c1 k (by omega)
    rw [Nat.zero_add] at hx1
    have hfr := own_frozen ho hm8.1
    have hB0c := B0.cell; have hB0f := B0.frozen
    have hbe : g2 ≠ w.heap.size := by omega
    have hb2 := B0.lt
    have hbg := L.lt
    -- what the world is behind both stores
    have own5 := own_set (j := k * 3 + 1) ho (.int .u64 (tm : Int)) hm8.1
    rw [sCells_set m k tm (by omega)] at own5
    have hnx2 : nextL l now tm = m.set k { m.getD k default with sent := tm } := by
      rw [hnx, hk]; unfold topS; rw [hk]; rfl
    rw [← hnx2] at own5
    have hnl : (nextL l now tm).length = m.length := by rw [hnx2, List.length_set]
    rw [← hnl] at own5
    have own6 := ownsRow_setCell_below own5 (a := ⟨w.heap.size, 4, none⟩) (by simp; omega) (.int .u64 (tm : Int))
    have hnsm : SmallL (nextL l now tm) := by
      rw [hnx2]
      intro j hj
      rw [List.length_set] at hj
      by_cases e : k = j
      · subst e
        have : (m.set k { m.getD k default with sent := tm }).getD k default = { m.getD k default with sent := tm } := by simp [List.getD, hj]
        rw [this]
        have := hmsm k hj
        exact ⟨this.1, htm, this.2.2⟩
      · have : (m.set k { m.getD k default with sent := tm }).getD j default = m.getD j default := by simp [List.getD, List.getElem?_set_ne e]
        rw [this]; exact hmsm j hj
    have B05 : Blk ((wc.setCell ⟨g2, k * 3 + 1, none⟩ (.int .u64 (tm : Int))).setCell ⟨w.heap.size, 4, none⟩ (.int .u64 (tm : Int))) w.heap.size #[fDiff, fSame, .slice (some ⟨g2, 0, none⟩) m.length c2, .string now, .int .u64 tm] 31 := (Blk.set (Blk.set_ne (a := ⟨g2, k * 3 + 1, none⟩) (fun e => hbe e.symm) B0)).conv rfl
    have B15 := Blk.set_ne (a := ⟨w.heap.size, 4, none⟩) (v := .int .u64 (tm : Int)) (by simp) (Blk.set_ne (a := ⟨g2, k * 3 + 1, none⟩) (v := .int .u64 (tm : Int)) (show w.heap.size + 1 ≠ g2 by omega) B1)
    have B25 := Blk.set_ne (a := ⟨w.heap.size, 4, none⟩) (v := .int .u64 (tm : Int)) (show w.heap.size + 1 + 1 ≠ w.heap.size by omega) (Blk.set_ne (a := ⟨g2, k * 3 + 1, none⟩) (v := .int .u64 (tm : Int)) (show w.heap.size + 1 + 1 ≠ g2 by omega) B2)
    have HB5 := (HB.setCell (p := ⟨g2, k * 3 + 1, none⟩) (show w.heap.size ≤ g2 by omega) (.int .u64 (tm : Int))).setCell (p := ⟨w.heap.size, 4, none⟩) (Nat.le_refl _) (.int .u64 (tm : Int))
    have h6a := Lib.hid own6; have h6b := Lib.hid B05; have h6c := Lib.hid B15; have h6d := Lib.hid B25; have h6e := Lib.hid HB5
    have HNX := Lib.hid hnx2; have HNL := Lib.hid hnl
    have hm8' : 0 < (nextL l now tm).length ∧ (nextL l now tm).length ≤ 8 := by omega
    clear own6 B05 B15 B25 HB5 own5 hnx hnx2 hnl hmsm L B0 B1 B2 ho HB hk
    go_upto_region 9 with fail
    generalize (wc.setCell ⟨g2, k * 3 + 1, none⟩ (.int .u64 (tm : Int))).setCell ⟨w.heap.size, 4, none⟩ (.int .u64 (tm : Int)) = E at *
    obtain ⟨g3, c3, h3, _, L6⟩ := list_of_own h6a.out hm8' hnsm
    simp only [Value.slice.injEq, Option.some.injEq, Addr.mk.injEq, true_and, and_true] at h3
    obtain ⟨rfl, rfl⟩ := h3
    have B0 := h6b.out
    have B0l := B0.lt
    clear hx1 hfr hB0c hB0f hb2 hbg
    have hnew : ∀ W, ListAt W g2 0 (nextL l now tm) → Calls Try.prog 33 #[SV (.slice (some ⟨g2, 0, none⟩) m.length c2) now tm] W fun e w' => e = .returned (.agg #[.int .u64 (topS (nextL l now tm)).num, .int .u64 (topS (nextL l now tm)).sent, .string (topS (nextL l now tm)).val]) ∧ Below W.heap.size W w' := fun W hL => by
      have := newest_any g2 0 c2 tm (nextL l now tm) now W hL
      rwa [HNL.out] at this
    have hy0 := L6.c0 0 hm8'.1
    have hy1 := L6.c1 0 hm8'.1
    have hy2 := L6.c2 0 hm8'.1
    simp only [Nat.zero_mul, Nat.zero_add] at hy0 hy1 hy2
    have h0m : (0 : Int) < m.length := by omega
    obtain ⟨x0, hx0⟩ : ∃ x, (nextL l now tm).getD 0 default = x := ⟨_, rfl⟩
    obtain ⟨xt, hxt⟩ : ∃ x, topS (nextL l now tm) = x := ⟨_, rfl⟩
    rw [hx0] at hy0 hy1 hy2
    simp only [hxt] at hnew
    have HX0 := Lib.hid hx0; have HXT := Lib.hid hxt
    clear hx0 hxt
    go_cut [14, 15] (fun s14 s15 wx => ∃ a1 a2 : Nat, (E.heap.size ≤ a1 ∧ E.heap.size ≤ a2) ∧ s14 = .pointer (some ⟨a1, 0, none⟩) ∧ s15 = .pointer (some ⟨a2, 0, none⟩) ∧ Blk wx a1 #[.int .u64 x0.num, .int .u64 x0.sent, .string x0.val] 70 ∧ Blk wx a2 #[.int .u64 xt.num, .int .u64 xt.sent, .string xt.val] 70 ∧ Below E.heap.size E wx)
    case first =>
      have kp : ∀ W, Below E.heap.size E W → ((W.cell? ⟨w.heap.size, 0, none⟩ = some fDiff ∧ W.cell? ⟨w.heap.size, 1, none⟩ = some fSame ∧ W.cell? ⟨w.heap.size, 2, none⟩ = some (.slice (some ⟨g2, 0, none⟩) m.length c2) ∧ W.cell? ⟨w.heap.size, 3, none⟩ = some (.string now) ∧ W.cell? ⟨w.heap.size, 4, none⟩ = some (.int .u64 tm)) ∧
          (W.cell? ⟨g2, 0, none⟩ = some (.int .u64 x0.num) ∧ W.cell? ⟨g2, 1, none⟩ = some (.int .u64 x0.sent) ∧ W.cell? ⟨g2, 2, none⟩ = some (.string x0.val))) := fun W hW =>
        ⟨⟨((B0.below hW).cell 0).trans rfl, ((B0.below hW).cell 1).trans rfl, ((B0.below hW).cell 2).trans rfl, ((B0.below hW).cell 3).trans rfl, ((B0.below hW).cell 4).trans rfl⟩,
          (hW.cell (p := ⟨g2, 0, none⟩) L6.lt).trans hy0, (hW.cell (p := ⟨g2, 1, none⟩) L6.lt).trans hy1, (hW.cell (p := ⟨g2, 2, none⟩) L6.lt).trans hy2⟩
      have KP := Lib.hid kp
      have HNEW := Lib.hid hnew
      clear kp hnew
      go_wp2_with fail
      go_region_held3 (fun W => (W.cell? ⟨w.heap.size, 0, none⟩ = some fDiff ∧ W.cell? ⟨w.heap.size, 1, none⟩ = some fSame ∧ W.cell? ⟨w.heap.size, 2, none⟩ = some (.slice (some ⟨g2, 0, none⟩) m.length c2) ∧ W.cell? ⟨w.heap.size, 3, none⟩ = some (.string now) ∧ W.cell? ⟨w.heap.size, 4, none⟩ = some (.int .u64 tm)) ∧
          (W.cell? ⟨g2, 0, none⟩ = some (.int .u64 x0.num) ∧ W.cell? ⟨g2, 1, none⟩ = some (.int .u64 x0.sent) ∧ W.cell? ⟨g2, 2, none⟩ = some (.string x0.val))) (exact KP.out _ (by (repeat (first | (with_reducible assumption) | (with_reducible exact Below.refl _ _) | with_reducible apply bl_drewN | with_reducible apply Below.drew | (with_reducible apply bl_alloc; focus (first | (simp; done) | (simp; omega) | omega)) | (with_reducible apply bl_set; focus (first | (simp; done) | (simp; omega) | omega)))))) (first | (go_at_call 33; refine (HNEW.out _ (L6.below (by (repeat (first | (with_reducible assumption) | (with_reducible exact Below.refl _ _) | with_reducible apply bl_drewN | with_reducible apply Below.drew | (with_reducible apply bl_alloc; focus (first | (simp; done) | (simp; omega) | omega)) | (with_reducible apply bl_set; focus (first | (simp; done) | (simp; omega) | omega))))))).mono ?_; rintro e w9 ⟨rfl, hb9⟩; have hb8 : Below E.heap.size E w9 := Below.thn (by (repeat (first | (with_reducible assumption) | (with_reducible exact Below.refl _ _) | with_reducible apply bl_drewN | with_reducible apply Below.drew | (with_reducible apply bl_alloc; focus (first | (simp; done) | (simp; omega) | omega)) | (with_reducible apply bl_set; focus (first | (simp; done) | (simp; omega) | omega))))) hb9; have hs8 := hb8.size; (try (have hBA := Blk.below (b := E.heap.size) (t := 70) (by (repeat (first | (with_reducible assumption) | (with_reducible apply Blk.new'; (first | (with_reducible rfl) | (simp; done))) | with_reducible apply Blk.alloc | with_reducible apply Blk.set | ((with_reducible apply Blk.set_ne); focus (first | (simp; done) | (simp; omega))) | with_reducible apply Blk.drewN | with_reducible apply Blk.drew))) hb9; have hBAc := hBA.cell; have hBAf := hBA.frozen; have hBAl := hBA.lt)); (try (have hBB := Blk.below (b := E.heap.size + 1) (t := 70) (by (repeat (first | (with_reducible assumption) | (with_reducible apply Blk.new'; (first | (with_reducible rfl) | (simp; done))) | with_reducible apply Blk.alloc | with_reducible apply Blk.set | ((with_reducible apply Blk.set_ne); focus (first | (simp; done) | (simp; omega))) | with_reducible apply Blk.drewN | with_reducible apply Blk.drew))) hb9; have hBBc := hBB.cell; have hBBf := hBB.frozen; have hBBl := hBB.lt))))
      all_goals
        go_wp2_with fail
        go_meet
        case rel =>
          refine ⟨_, _, ⟨?_, ?_⟩, rfl, rfl, ?_, ?_, ?_⟩
          · first | exact Nat.le_refl _ | omega | (simp; omega)
          · first | exact Nat.le_refl _ | omega | (simp; omega)
          · (apply Blk.conv; focus (repeat (first | (with_reducible assumption) | (with_reducible apply Blk.new'; (first | (with_reducible rfl) | (simp; done))) | with_reducible apply Blk.alloc | with_reducible apply Blk.set | ((with_reducible apply Blk.set_ne); focus (first | (simp; done) | (simp; omega))) | with_reducible apply Blk.drewN | with_reducible apply Blk.drew)))
            (first | rfl | (simp; done) | (simp; omega))
          · (apply Blk.conv; focus (repeat (first | (with_reducible assumption) | (with_reducible apply Blk.new'; (first | (with_reducible rfl) | (simp; done))) | with_reducible apply Blk.alloc | with_reducible apply Blk.set | ((with_reducible apply Blk.set_ne); focus (first | (simp; done) | (simp; omega))) | with_reducible apply Blk.drewN | with_reducible apply Blk.drew)))
            (first | rfl | (simp; done) | (simp; omega))
          · repeat (first | (with_reducible assumption) | (with_reducible exact Below.refl _ _) | with_reducible apply bl_drewN | with_reducible apply Below.drew | (with_reducible apply bl_alloc; focus (first | (simp; done) | (simp; omega) | omega)) | (with_reducible apply bl_set; focus (first | (simp; done) | (simp; omega) | omega)))
    case rest =>
      obtain ⟨a1, a2, ⟨ha1, ha2⟩, rfl, rfl, Ba1, Ba2, HbE⟩ := hcut
      have hsE := HbE.size
      have hsz0 : x0.val.size ≤ 1000 := by rw [← HX0.out]; exact (hnsm 0 hm8'.1).2.2
      have hszt : xt.val.size ≤ 1000 := by rw [← HXT.out]; exact (hnsm _ (by omega)).2.2
      obtain ⟨cur, hcur⟩ : ∃ cur, Blk E g2 cur 70 := by
        rcases h6a.out.2 with ⟨_, h5⟩ | ⟨bq, capq, cur, h5, _, h7, _⟩
        · omega
        · simp only [Value.slice.injEq, Option.some.injEq, Addr.mk.injEq] at h5
          obtain ⟨⟨rfl, _, _⟩, _, rfl⟩ := h5
          exact ⟨cur, ⟨h7⟩⟩
      have kf : ∀ W, Blk W g2 cur 70 → SenderAt W (SV (.slice (some ⟨g2, 0, none⟩) m.length c2) now tm) (nextL l now tm) now tm := fun W hW => by
        have := sender_of_own (own_keepH h6a.out (w' := W) (by rw [hW.out, hcur.out])) hm8' hnsm htm hl2
        rwa [HNL.out] at this
      have KF := Lib.hid kf
      have hg2l := hcur.lt
      have C0 := B0.below HbE
      have C1 := h6c.out.below HbE
      have C2 := h6d.out.below HbE
      have Cg := hcur.below HbE
      have HBC := Below.thn h6e.out HbE h6e.out.size
      have HBCs := HBC.size
      have hl3 : w.heap.size + 1 + 1 < E.heap.size := h6d.out.lt
      clear L6 B0 hnew hy0 hy1 hy2 h6a h6b h6c h6d h6e HbE hnsm hcur kf
      have kp : ∀ W, Blk W w.heap.size #[fDiff, fSame, .slice (some ⟨g2, 0, none⟩) m.length c2, .string now, .int .u64 tm] 31 → Blk W a1 #[.int .u64 x0.num, .int .u64 x0.sent, .string x0.val] 70 → Blk W a2 #[.int .u64 xt.num, .int .u64 xt.sent, .string xt.val] 70 →
          ((W.cell? ⟨w.heap.size, 0, none⟩ = some fDiff ∧ W.cell? ⟨w.heap.size, 1, none⟩ = some fSame ∧ W.cell? ⟨w.heap.size, 2, none⟩ = some (.slice (some ⟨g2, 0, none⟩) m.length c2) ∧ W.cell? ⟨w.heap.size, 3, none⟩ = some (.string now) ∧ W.cell? ⟨w.heap.size, 4, none⟩ = some (.int .u64 tm)) ∧
          (W.cell? ⟨a1, 0, none⟩ = some (.int .u64 x0.num) ∧ W.cell? ⟨a1, 2, none⟩ = some (.string x0.val)) ∧ (W.cell? ⟨a2, 0, none⟩ = some (.int .u64 xt.num) ∧ W.cell? ⟨a2, 2, none⟩ = some (.string xt.val))) := fun W h0 h1 h2 =>
        ⟨⟨(h0.cell 0).trans rfl, (h0.cell 1).trans rfl, (h0.cell 2).trans rfl, (h0.cell 3).trans rfl, (h0.cell 4).trans rfl⟩, ⟨(h1.cell 0).trans rfl, (h1.cell 2).trans rfl⟩, (h2.cell 0).trans rfl, (h2.cell 2).trans rfl⟩
      have KP := Lib.hid kp
      have D1c := C1.cell; have D1f := C1.frozen; have D1l := C1.lt
      have D2c := C2.cell; have D2f := C2.frozen; have D2l := C2.lt
      clear kp
      go_wp2_with fail
      go_region_held3 (fun W => (W.cell? ⟨w.heap.size, 0, none⟩ = some fDiff ∧ W.cell? ⟨w.heap.size, 1, none⟩ = some fSame ∧ W.cell? ⟨w.heap.size, 2, none⟩ = some (.slice (some ⟨g2, 0, none⟩) m.length c2) ∧ W.cell? ⟨w.heap.size, 3, none⟩ = some (.string now) ∧ W.cell? ⟨w.heap.size, 4, none⟩ = some (.int .u64 tm)) ∧
          (W.cell? ⟨a1, 0, none⟩ = some (.int .u64 x0.num) ∧ W.cell? ⟨a1, 2, none⟩ = some (.string x0.val)) ∧ (W.cell? ⟨a2, 0, none⟩ = some (.int .u64 xt.num) ∧ W.cell? ⟨a2, 2, none⟩ = some (.string xt.val)))
        (exact KP.out _ (by (repeat (first | (with_reducible assumption) | (with_reducible apply Blk.new'; (first | (with_reducible rfl) | (simp; done))) | with_reducible apply Blk.alloc | with_reducible apply Blk.set | ((with_reducible apply Blk.set_ne); focus (first | (simp; done) | (simp; omega))) | with_reducible apply Blk.drewN | with_reducible apply Blk.drew))) (by (repeat (first | (with_reducible assumption) | (with_reducible apply Blk.new'; (first | (with_reducible rfl) | (simp; done))) | with_reducible apply Blk.alloc | with_reducible apply Blk.set | ((with_reducible apply Blk.set_ne); focus (first | (simp; done) | (simp; omega))) | with_reducible apply Blk.drewN | with_reducible apply Blk.drew))) (by (repeat (first | (with_reducible assumption) | (with_reducible apply Blk.new'; (first | (with_reducible rfl) | (simp; done))) | with_reducible apply Blk.alloc | with_reducible apply Blk.set | ((with_reducible apply Blk.set_ne); focus (first | (simp; done) | (simp; omega))) | with_reducible apply Blk.drewN | with_reducible apply Blk.drew))))
        (first | (go_at_call 29; refine (diff_any x0.val xt.val _ (by omega) (by omega)).mono ?_; rintro e w9 ⟨rfl, hb9⟩; have HB9 : Below w.heap.size w w9 := Below.thn (by (repeat (first | (with_reducible assumption) | (with_reducible exact Below.refl _ _) | with_reducible apply bl_drewN | with_reducible apply Below.drew | (with_reducible apply bl_alloc; focus (first | (simp; done) | (simp; omega) | omega)) | (with_reducible apply bl_set; focus (first | (simp; done) | (simp; omega) | omega))))) hb9; have G0 := Blk.below (b := w.heap.size) (t := 31) (by (repeat (first | (with_reducible assumption) | (with_reducible apply Blk.new'; (first | (with_reducible rfl) | (simp; done))) | with_reducible apply Blk.alloc | with_reducible apply Blk.set | ((with_reducible apply Blk.set_ne); focus (first | (simp; done) | (simp; omega))) | with_reducible apply Blk.drewN | with_reducible apply Blk.drew))) hb9; have Ga1 := Blk.below (b := a1) (t := 70) (by (repeat (first | (with_reducible assumption) | (with_reducible apply Blk.new'; (first | (with_reducible rfl) | (simp; done))) | with_reducible apply Blk.alloc | with_reducible apply Blk.set | ((with_reducible apply Blk.set_ne); focus (first | (simp; done) | (simp; omega))) | with_reducible apply Blk.drewN | with_reducible apply Blk.drew))) hb9; have Ga2 := Blk.below (b := a2) (t := 70) (by (repeat (first | (with_reducible assumption) | (with_reducible apply Blk.new'; (first | (with_reducible rfl) | (simp; done))) | with_reducible apply Blk.alloc | with_reducible apply Blk.set | ((with_reducible apply Blk.set_ne); focus (first | (simp; done) | (simp; omega))) | with_reducible apply Blk.drewN | with_reducible apply Blk.drew))) hb9; have Gg := Blk.below (b := g2) (t := 70) (by (repeat (first | (with_reducible assumption) | (with_reducible apply Blk.new'; (first | (with_reducible rfl) | (simp; done))) | with_reducible apply Blk.alloc | with_reducible apply Blk.set | ((with_reducible apply Blk.set_ne); focus (first | (simp; done) | (simp; omega))) | with_reducible apply Blk.drewN | with_reducible apply Blk.drew))) hb9; have G1 := Blk.below (b := w.heap.size + 1) (t := 31) (by (repeat (first | (with_reducible assumption) | (with_reducible apply Blk.new'; (first | (with_reducible rfl) | (simp; done))) | with_reducible apply Blk.alloc | with_reducible apply Blk.set | ((with_reducible apply Blk.set_ne); focus (first | (simp; done) | (simp; omega))) | with_reducible apply Blk.drewN | with_reducible apply Blk.drew))) hb9; have G2 := Blk.below (b := w.heap.size + 1 + 1) (t := 38) (by (repeat (first | (with_reducible assumption) | (with_reducible apply Blk.new'; (first | (with_reducible rfl) | (simp; done))) | with_reducible apply Blk.alloc | with_reducible apply Blk.set | ((with_reducible apply Blk.set_ne); focus (first | (simp; done) | (simp; omega))) | with_reducible apply Blk.drewN | with_reducible apply Blk.drew))) hb9; have G1c := G1.cell; have G1f := G1.frozen; have G1l := G1.lt; have G2c := G2.cell; have G2f := G2.frozen; have G2l := G2.lt))
      all_goals
        go_wp2
        refine bodyPost_ret (v := .tuple #[SV (.slice (some ⟨g2, 0, none⟩) m.length c2) now tm, IV x0.num xt.num ack x0.num (x0.val ++ ⟨#[62]⟩ ++ xt.val), .bool true]) ?_ rfl ⟨SV (.slice (some ⟨g2, 0, none⟩) m.length c2) now tm, ?_, KF.out _ (by (repeat (first | (with_reducible assumption) | (with_reducible apply Blk.new'; (first | (with_reducible rfl) | (simp; done))) | with_reducible apply Blk.alloc | with_reducible apply Blk.set | ((with_reducible apply Blk.set_ne); focus (first | (simp; done) | (simp; omega))) | with_reducible apply Blk.drewN | with_reducible apply Blk.drew))), by (repeat (first | (with_reducible assumption) | (with_reducible exact Below.refl _ _) | with_reducible apply bl_drewN | with_reducible apply Below.drew | (with_reducible apply bl_alloc; focus (first | (simp; done) | (simp; omega) | omega)) | (with_reducible apply bl_set; focus (first | (simp; done) | (simp; omega) | omega))))⟩
        · first | (simp [results, Try.results12, go_sem, G1c, G2c]; done) | simp [results, Try.results12, go_sem, G1c, G1l, G2c, G2l]
        · rw [HX0.out, HXT.out]
end Go.Proofs.Ytpnbmfpdoipioaa
