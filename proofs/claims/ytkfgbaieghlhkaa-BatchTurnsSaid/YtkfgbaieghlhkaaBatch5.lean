/- Flush: the walk. -/
import Derived.Test.YtkfgbaieghlhkaaBatch4
namespace Go.Proofs.Ytkfgbaieghlhkaa
open Go.RowKit

theorem take_snoc' (es : List Ent) (k : Nat) (hk : k < es.length) : es.take (k + 1) = es.take k ++ [es.getD k default] := by
  rw [List.take_add_one, List.getElem?_eq_getElem hk]
  simp [List.getD, List.getElem?_eq_getElem hk]

theorem own_turn {w w' : World} {pb B base m : Nat} {e : TypeId} {size : Nat} {v : Value} {xs : List Value} (h : w.ownsRow base e size v m xs) (T : Turn pb B w w') (h3 : pb < base) (h4 : B < base) : w'.ownsRow base e size v m xs :=
  ⟨h.1, by
    rcases h.2 with h5 | ⟨b, c, cur, h5, h6, h7, h8⟩
    · exact Or.inl h5
    · exact Or.inr ⟨b, c, cur, h5, h6, (T.block b (Array.getElem?_eq_some_iff.1 h7).1 (by omega) (by omega)).trans h7, h8⟩⟩
theorem TurnB.below {pb B bb : Nat} {lb : Option Nat} {w a b : World} (h : TurnB pb B bb lb w a) (g : Below a.heap.size a b) : TurnB pb B bb lb w b :=
  ⟨h.out.trans (g.mono (Nat.zero_le _)), fun k hk e1 e2 e3 e4 => (g.block k (Nat.lt_of_lt_of_le hk h.out.size)).trans (h.block k hk e1 e2 e3 e4)⟩
theorem TurnB.turn {pb B bb : Nat} {lb : Option Nat} {w a b : World} (h : TurnB pb B bb lb w a) (g : Turn pb B a b) : TurnB pb B bb lb w b :=
  ⟨h.out.trans g.out, fun k hk e1 e2 e3 e4 => (g.block k (Nat.lt_of_lt_of_le hk h.out.size) e1 e2).trans (h.block k hk e1 e2 e3 e4)⟩
theorem TurnB.low {pb B bb : Nat} {lb : Option Nat} {w a b : World} (h : TurnB pb B bb lb w a) (g : Below w.heap.size a b) : TurnB pb B bb lb w b :=
  ⟨h.out.trans (g.mono (Nat.zero_le _)), fun k hk e1 e2 e3 e4 => (g.block k hk).trans (h.block k hk e1 e2 e3 e4)⟩
theorem PoolAt.low {N : Nat} {w w' : World} {pb B n ever : Nat} {l : List Buf} (h : PoolAt w pb B n l ever) (g : Below N w w') (h1 : pb < N) (h2 : B < N) : PoolAt w' pb B n l ever :=
  ⟨⟨(g.block pb h1).trans h.hd.out⟩, h.row.of_block (g.block B h2), h.len, h.fit, h.ne, h.most⟩
theorem BatchAt.low {N : Nat} {w w' : World} {bb pb most base : Nat} {lv : Value} {l : List Ent} (h : BatchAt w bb pb most base lv l) (g : Below N w w') (h1 : bb < N) (h2 : ∀ q, lv.ownBlock = some q → q < N) : BatchAt w' bb pb most base lv l :=
  ⟨⟨(g.block bb h1).trans h.hd.out⟩, h.own.1, by
    rcases h.own.2 with h5 | ⟨b, c, cur, h5, h6, h7, h8⟩
    · exact Or.inl h5
    · exact Or.inr ⟨b, c, cur, h5, h6, (g.block b (h2 b (by rw [h5]; rfl))).trans h7, h8⟩⟩

/-- What is behind Flush. -/
def FlushPost (pb B bb most base n ever : Nat) (l : List Buf) (es : List Ent) (w : World) (e : Ending) (w' : World) : Prop :=
  ∃ v, e = .returned v ∧ w'.ownsRow w.heap.size 54 3 v es.length (outCells l es) ∧ PoolAt w' pb B n (freeAll l es) ever ∧ BatchAt w' bb pb most base (.slice none 0 0) [] ∧ TurnB pb B bb none w w'

set_option maxHeartbeats 4000000 in
set_option maxRecDepth 20000 in
theorem flush_any (pb B bb most base n ever : Nat) (lv : Value) (es : List Ent) (l : List Buf) (w : World) (P : PoolAt w pb B n l ever) (A : BatchAt w bb pb most base lv es) (hb1 : pb < base) (hb2 : B < base) (hb3 : bb < base) (hbp : bb ≠ pb) (hbB : bb ≠ B)
    (hel : es.length ≤ 64) (hes : ∀ k, k < es.length → (es.getD k default).i < n ∧ (l.getD (es.getD k default).i default).held = true) (hdis : ∀ k j, k < j → j < es.length → (es.getD k default).i ≠ (es.getD j default).i) :
    Calls Try.prog 23 #[.pointer (some ⟨bb, 0, none⟩)] w fun e w' => FlushPost pb B bb most base n ever l es w e w' := by
  obtain ⟨i0, hi0, hz0, hz1, hz2⟩ := info_parts info54
  obtain ⟨a, c, rfl⟩ := own_slice A.own
  have hc := A.hd.cell; have hcf := A.hd.frozen
  go_enter Try.func23, Try.ntmps23
  go_wp2_with fail
  clear hc hcf
  have hgl : ∀ q, (Value.slice a es.length c).ownBlock = some q → q < w.heap.size := fun q h => (A.own.lt q h).2
  go_loopg [3, 15] es.length (fun g t3 t15 wr => ∃ k : Nat, t15 = .int .i64 k ∧ k + g = es.length ∧ PoolAt wr pb B n (freeAll l (es.take k)) ever ∧ BatchAt wr bb pb most base (.slice a es.length c) es ∧ TurnB pb B bb none w wr ∧
    wr.ownsRow w.heap.size 54 3 t3 k (outCells l (es.take k)))
  case atStart => exact ⟨0, rfl, by omega, P, A, ⟨Below.refl _ _, fun _ _ _ _ _ _ => rfl⟩, World.ownsRow_nil _ _ _ _⟩
  case round =>
    have hplt := P.hd.lt
    have hBlt := P.lt
    have hblt := A.hd.lt
    clear P A
    obtain ⟨k, rfl, hk, P, A, TB, hown⟩ := hrel
    have HK := Lib.hid hk
    have hws := TB.out.size
    cases gk with
    | zero =>
      have hk' : ¬ (k : Int) < es.length := by omega
      have hke : k = es.length := by omega
      clear hk
      have hbc := A.hd.cell; have hbf := A.hd.frozen
      have HP := Lib.hid P
      have HA := Lib.hid A
      have HT := Lib.hid TB
      have HO := Lib.hid hown
      clear P A TB hown
      go_wp2
      go_ret
      refine ⟨_, rfl, ownsRow_setCell_below ?_ (a := ⟨bb, 2, none⟩) hblt _, ?_, ⟨HA.out.hd.set.conv rfl, World.ownsRow_nil _ _ _ _⟩, HT.out.set⟩
      · have := HO.out
        rwa [hke, List.take_length] at this
      · have := HP.out
        rw [hke, List.take_length] at this
        exact this.other (Ne.symm hbp) (Ne.symm hbB)
    | succ g =>
      have hk' : (k : Int) < es.length := by omega
      have hkl : k < es.length := by omega
      clear hk
      obtain ⟨g0, hg0, hcl⟩ : ∃ g0, a = some ⟨g0, 0, none⟩ ∧ ∀ j, j < es.length * 3 → wr.cell? ⟨g0, j, none⟩ = (entCells es)[j]? := by
        rcases A.own.2 with ⟨h1, h2⟩ | ⟨g0, cap, cur, h1, _⟩
        · omega
        · simp only [Value.slice.injEq] at h1
          obtain ⟨rfl, _, rfl⟩ := h1
          exact ⟨g0, rfl, fun j hj => A.own.cellAt j hj⟩
      subst hg0
      obtain ⟨e0, e1, e2⟩ := ent_cells es k hkl
      have hx0 := (hcl (k * 3) (by omega)).trans e0
      have hx1 := (hcl (k * 3 + 1) (by omega)).trans e1
      have hx2 := (hcl (k * 3 + 2) (by omega)).trans e2
      obtain ⟨hin, hih⟩ := hes k hkl
      have hne : ∀ e ∈ es.take k, e.i ≠ (es.getD k default).i := by
        intro e he
        obtain ⟨j, hj, rfl⟩ := List.getElem_of_mem he
        have hj2 := hj
        rw [List.length_take] at hj2
        have hj' : j < k := by omega
        have := hdis j k hj' hkl
        rw [List.getElem_take]
        rwa [show es.getD j default = es[j] by rw [List.getD, List.getElem?_eq_getElem (by omega)]; rfl] at this
      have hfa := freeAll_other l (es.take k) _ hne
      have HTK := Lib.hid (take_snoc' es k hkl)
      clear hcl e0 e1 e2
      generalize es.getD k default = x at hx0 hx1 hx2 hin hih hne hfa HTK
      obtain ⟨xh, xp, xi⟩ := x
      simp only at hx0 hx1 hx2 hin hih hne hfa
      obtain ⟨s, hs⟩ : ∃ s, (l.getD xi default).text = s := ⟨_, rfl⟩
      have HP := Lib.hid P
      have HA := Lib.hid A
      have HT := Lib.hid TB
      have HO := Lib.hid hown
      have HF := Lib.hid hfa
      have HH := Lib.hid hih
      have HS := Lib.hid hs
      have hbl := A.hd.lt
      have BB0 := A.hd
      clear P A TB hown hfa hih hs hne
      go_wp2_with fail
      refine wp_abs2 (n := wr.heap.size) (w := wr) wr.heap.size 90 bb 88 (by (repeat (first | (with_reducible assumption) | (with_reducible exact Below.refl _ _) | with_reducible apply bl_drewN | with_reducible apply Below.drew | (with_reducible apply bl_alloc; focus (first | (simp; done) | (simp; omega) | omega)) | (with_reducible apply bl_set; focus (first | (simp; done) | (simp; omega) | omega))))) (by (repeat (first | (with_reducible assumption) | (with_reducible apply Blk.new'; (first | (with_reducible rfl) | (simp; done))) | with_reducible apply Blk.alloc | with_reducible apply Blk.set | ((with_reducible apply Blk.set_ne); focus (first | (simp; done) | (simp; omega))) | with_reducible apply Blk.drewN | with_reducible apply Blk.drew))) (by (repeat (first | (with_reducible assumption) | (with_reducible apply Blk.new'; (first | (with_reducible rfl) | (simp; done))) | with_reducible apply Blk.alloc | with_reducible apply Blk.set | ((with_reducible apply Blk.set_ne); focus (first | (simp; done) | (simp; omega))) | with_reducible apply Blk.drewN | with_reducible apply Blk.drew))) (fun W1 hb1 BX BB => ?_)
      have P1 := Lib.hid (HP.out.below hb1)
      have A1 := Lib.hid (HA.out.below hb1)
      have hb1h := Lib.hid hb1
      clear hb1 hx0 hx1 hx2
      refine wp_region_gr (by kernel_rfl) (by kernel_rfl) ?_
      repeat (first
        | go_big_quiet_skip
        | ((refine BigFrame.wpQuiet_want rfl (fun K hK => quiet_mk ?_)); apply Exists.intro; refine ⟨fun wq hq => ?_, hK _ ?_⟩
           · have f0 := hq.blk BX; have f1 := hq.blk BB; go_simp; (try simp only [↓IntWalk.iteOmega]); (try go_bits)
             first | done | rfl | exact ⟨rfl, rfl⟩ | (go_at_call 15; refine (read_ok pb B n ever xi (freeAll l (es.take k)) s _ (P1.out.below hq.out) hin (by rw [HF.out]; exact HH.out) (by rw [HF.out]; exact HS.out)).mono ?_; rintro e wr ⟨rfl, hbr⟩; exact ⟨rfl, hq.next hbr⟩)
           clear hK K; (try simp only [Act.put, List.setIfInBounds_toArray, List.set_cons_zero, List.set_cons_succ])))
      refine wpQuiet_nil ?_
      intro W2 hw1
      have hb2 := Below.thn hb1h.out hw1.out hb1h.out.size
      have P2 := Lib.hid (HP.out.below hb2)
      have A2 := Lib.hid (HA.out.below hb2)
      have hb2h := Lib.hid hb2
      have BX2 := BX.gr hw1
      have BB2 := BB.gr hw1
      clear hw1 hb2 P1 A1 hb1h BX BB BB0
      go_wp2_with fail
      refine wp_region_gr_tail 6 (by kernel_rfl) (by kernel_rfl) ?_
      simp only [List.take_succ_cons, List.take_zero, List.drop_succ_cons, List.drop_zero]
      repeat (first
        | go_big_quiet_skip
        | ((refine BigFrame.wpQuiet_want rfl (fun K hK => quiet_mk ?_)); apply Exists.intro; refine ⟨fun wq hq => ?_, hK _ ?_⟩
           · have f0 := hq.blk BX2; have f1 := hq.blk BB2; go_simp; (try simp only [↓IntWalk.iteOmega]); (try go_bits)
             first | done | rfl | exact ⟨rfl, rfl⟩
           clear hK K; (try simp only [Act.put, List.setIfInBounds_toArray, List.set_cons_zero, List.set_cons_succ])))
      refine wpQuiet_nil ?_
      intro W3 hw3
      have hb3' := Below.thn hb2h.out hw3.out hb2h.out.size
      have P3 := HP.out.below hb3'
      have A3 := HA.out.below hb3'
      have BX3 := BX2.gr hw3
      have hb3h := Lib.hid hb3'
      clear hw3 hb3' P2 A2 hb2h BX2 BB2
      go_wp2_with fail
      refine (put_ok pb B n ever xi (freeAll l (es.take k)) _ P3 hin (by rw [HF.out]; exact HH.out)).mono ?_
      rintro e W4 ⟨rfl, T, P4⟩
      have A4 := A3.turn T hbp hbB hb1 hb2
      have T4 := (HT.out.below hb3h.out).turn T
      have BX4 := T.blk BX3 (by omega) (by omega)
      have O4 := own_turn (own_below2 HO.out hb3h.out) T (by omega) (by omega)
      have hW4 := T4.out.size
      have hW5 : wr.heap.size < W4.heap.size := BX4.lt
      have HP4 := Lib.hid P4
      have HA4 := Lib.hid A4
      have HT4 := Lib.hid T4
      have HO4 := Lib.hid O4
      have hxc := BX4.cell; have hxf := BX4.frozen
      clear P3 A3 hb3h BX3 T P4 A4 T4 O4 HP HA HT HO
      go_wp2_with (at_builtin; refine wpList_append_own _ rfl _ _ 50 rfl w.heap.size 54 i0 _ 3 24 Try.underlying50 hi0 hz0 hz1 hz2 rfl (by decide) _ _ _ rfl (HO4.out.alloc _) ⟨W4.heap.size, 0, none⟩ 1 1 [.int .u32 xh, .int .u16 xp, .string s] rfl rfl ?c1 ?c2 ?c3 ?c4 ?c5 ?_)
      case c1 => exact World.news_of_block (heap_alloc_new W4 _)
      case c2 => simp [Value.oneCell']
      case c3 => unfold maxLen; omega
      case c4 => omega
      case c5 => simp; omega
      intro v' W5 ho hg hn
      have hlow : Below w.heap.size W4 W5 := ((Below.refl _ _).alloc hW4 _).grown hg (by simp; omega) (fun q hq => (HO4.out.lt q hq).1)
      have P5 := Lib.hid (HP4.out.low hlow hplt hBlt)
      have A5 := Lib.hid (HA4.out.low hlow hblt hgl)
      have T5 := Lib.hid (HT4.out.low hlow)
      have O5 := Lib.hid ho
      clear hg hn hlow ho hxc hxf HP4 HA4 HT4 HO4
      go_wp2_with fail
      go_roundg g
      case rel =>
        refine ⟨k + 1, by simp, by have := HK.out; omega, ?_, A5.out, T5.out, ?_⟩
        · rw [HTK.out, freeAll_snoc]; exact P5.out
        · rw [HTK.out, outCells_snoc]
          have := O5.out
          rw [← HS.out] at this
          exact this
      case measure => omega
end Go.Proofs.Ytkfgbaieghlhkaa
