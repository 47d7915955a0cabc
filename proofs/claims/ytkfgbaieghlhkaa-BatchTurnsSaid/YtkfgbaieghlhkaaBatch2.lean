/- Add. -/
import Derived.Test.YtkfgbaieghlhkaaBatch1
import Derived.Test.YtkfgbaieghlhkaaPoolFillsW
import Derived.Deep.AppendLies
import Derived.Deep.RegionLaw
namespace Go.Proofs.Ytkfgbaieghlhkaa
open Go.RowKit

theorem own_below2 {w w' : World} {base : Nat} {e : TypeId} {size : Nat} {v : Value} {m : Nat} {xs : List Value} (h : w.ownsRow base e size v m xs) (g : Below w.heap.size w w') : w'.ownsRow base e size v m xs := by
  refine ⟨h.1, ?_⟩
  rcases h.2 with h2 | ⟨b, c, cur, h3, h4, h5, h6⟩
  · exact Or.inl h2
  · exact Or.inr ⟨b, c, cur, h3, h4, (g.block b (Array.getElem?_eq_some_iff.1 h5).1).trans h5, h6⟩

/-- Nothing but the pool's two blocks, the batch's, and its list's has turned. -/
structure TurnB (pb B bb : Nat) (lb : Option Nat) (w w' : World) : Prop where
  out : Below 0 w w'
  block : ∀ k, k < w.heap.size → k ≠ pb → k ≠ B → k ≠ bb → some k ≠ lb → w'.heap[k]? = w.heap[k]?

theorem BatchAt.below {w w' : World} {bb pb most base : Nat} {lv : Value} {l : List Ent} (h : BatchAt w bb pb most base lv l) (g : Below w.heap.size w w') : BatchAt w' bb pb most base lv l := ⟨h.hd.below g, own_below2 h.own g⟩
theorem BatchAt.turn {w w' : World} {bb pb B most base : Nat} {lv : Value} {l : List Ent} (h : BatchAt w bb pb most base lv l) (T : Turn pb B w w') (h1 : bb ≠ pb) (h2 : bb ≠ B) (h3 : pb < base) (h4 : B < base) : BatchAt w' bb pb most base lv l :=
  ⟨T.blk h.hd h1 h2, h.own.1, by
    rcases h.own.2 with h5 | ⟨b, c, cur, h5, h6, h7, h8⟩
    · exact Or.inl h5
    · exact Or.inr ⟨b, c, cur, h5, h6, (T.block b (Array.getElem?_eq_some_iff.1 h7).1 (by omega) (by omega)).trans h7, h8⟩⟩
theorem blk_grown {w2 w' : World} {bb base m : Nat} {lv : Value} {cs : Array Value} {t e : TypeId} {size : Nat} {xs : List Value} {O : Obj} (B : Blk w2 bb cs t) (h : w2.ownsRow base e size lv m xs) (hb : bb < base) (hg : (w2.drew.alloc O).grownBy w' lv.ownBlock) : Blk w' bb cs t := by
  have hlt : bb < (w2.drew.alloc O).heap.size := by have := B.lt; simp; omega
  refine ⟨(hg.block bb hlt (fun e => ?_)).trans (((Below.heap_alloc w2.drew O bb B.lt)).trans B.out)⟩
  have := (h.lt bb e.symm).1
  omega
theorem pool_grown {w2 w' : World} {pb B n ever base m : Nat} {l : List Buf} {lv : Value} {e : TypeId} {size : Nat} {xs : List Value} {O : Obj} (P : PoolAt w2 pb B n l ever) (h : w2.ownsRow base e size lv m xs) (hb1 : pb < base) (hb2 : B < base)
    (hg : (w2.drew.alloc O).grownBy w' lv.ownBlock) : PoolAt w' pb B n l ever := by
  refine ⟨blk_grown P.hd h hb1 hg, P.row.of_block ?_, P.len, P.fit, P.ne, P.most⟩
  have hlt : B < (w2.drew.alloc O).heap.size := by have := P.lt; simp; omega
  refine (hg.block B hlt (fun e => ?_)).trans (Below.heap_alloc w2.drew O B P.lt)
  have := (h.lt B e.symm).1
  omega
theorem turnB_of {w w1 w2 w' : World} {pb B bb : Nat} {lb : Option Nat} {O : Obj} (hb : Below w.heap.size w w1) (T : Turn pb B w1 w2) (hg : (w2.drew.alloc O).grownBy w' lb) : TurnB pb B bb lb w w' := by
  have h1 := hb.size
  have h2 := T.out.size
  have h3 : w2.heap.size ≤ (w2.drew.alloc O).heap.size := by simp
  refine ⟨⟨hg.os.trans (T.out.os.trans hb.os), hg.tape.trans (T.out.tape.trans hb.tape), hg.output.trans (T.out.output.trans hb.output), by have := hg.size; omega, fun k hk => by omega⟩, fun k hk e1 e2 e3 e4 => ?_⟩
  exact (hg.block k (by omega) e4).trans ((Below.heap_alloc w2.drew O k (by show k < w2.heap.size; omega)).trans ((T.block k (by omega) e1 e2).trans (hb.block k hk)))
theorem TurnB.set {w w' : World} {pb B bb o : Nat} {lb : Option Nat} {v : Value} (h : TurnB pb B bb lb w w') : TurnB pb B bb lb w (w'.setCell ⟨bb, o, none⟩ v) :=
  ⟨h.out.setCell (Nat.zero_le _) _, fun k hk e1 e2 e3 e4 => (Below.heap_setCell w' ⟨bb, o, none⟩ v k (by exact e3)).trans (h.block k hk e1 e2 e3 e4)⟩
theorem info90 : (Try.prog.info? 90).map (fun i => (i.zero, i.size, i.bytes)) = some (some (.agg #[.int .u32 0, .int .u16 0, .int .i64 0]), 3, 16) := by kernel_rfl

set_option maxHeartbeats 2000000 in
set_option maxRecDepth 20000 in
theorem add_ok (pb B bb most base n ever i : Nat) (lv : Value) (es : List Ent) (l : List Buf) (h p : Int) (s : ByteArray) (w : World)
    (P : PoolAt w pb B n l ever) (A : BatchAt w bb pb most base lv es) (hb1 : pb < base) (hb2 : B < base) (hb3 : bb < base) (hb4 : base ≤ w.heap.size) (hbp : bb ≠ pb) (hbB : bb ≠ B)
    (hfull : es.length < most) (hmost : most ≤ 64) (hs : s.size ≤ 512) (hi : i < n) (hall : ∀ j, j < i → (l.getD j default).held = true) (hat : (l.getD i default).held = false) (he : ever ≤ 1000000) :
    Calls Try.prog 22 #[.pointer (some ⟨bb, 0, none⟩), .agg #[.int .u32 h, .int .u16 p], .string s] w fun e w' => e = .returned (.int .i64 0) ∧ ∃ lv', PoolAt w' pb B n (l.set i ⟨true, s⟩) (ever + 1) ∧
      BatchAt w' bb pb most base lv' (es ++ [⟨h, p, i⟩]) ∧ TurnB pb B bb lv.ownBlock w w' ∧ (lv'.ownBlock = lv.ownBlock ∨ ∃ g, lv'.ownBlock = some g ∧ w.heap.size ≤ g) := by
  obtain ⟨i0, hi0, hz0, hz1, hz2⟩ := info_parts info90
  go_enter Try.func22, Try.ntmps22
  go_wp2_with fail
  -- at Full: the first call
  refine (full_any bb pb most base lv es _ (A.below (by (repeat (first | (with_reducible assumption) | (with_reducible exact Below.refl _ _) | with_reducible apply bl_drewN | with_reducible apply Below.drew | (with_reducible apply bl_alloc; focus (first | (simp; done) | (simp; omega) | omega)) | (with_reducible apply bl_set; focus (first | (simp; done) | (simp; omega) | omega))))))).mono ?_
  rintro e w1 ⟨rfl, hb⟩
  have hfd : decide (most ≤ es.length) = false := by simp; omega
  rw [hfd]
  have hbw := Below.thn (n := w.heap.size) (w := w) (by (repeat (first | (with_reducible assumption) | (with_reducible exact Below.refl _ _) | with_reducible apply bl_drewN | with_reducible apply Below.drew | (with_reducible apply bl_alloc; focus (first | (simp; done) | (simp; omega) | omega)) | (with_reducible apply bl_set; focus (first | (simp; done) | (simp; omega) | omega))))) hb
  have Bx : Blk w1 w.heap.size #[.int .u32 h, .int .u16 p] 49 := Blk.below (by (repeat (first | (with_reducible assumption) | (with_reducible apply Blk.new'; (first | (with_reducible rfl) | (simp; done))) | with_reducible apply Blk.alloc | with_reducible apply Blk.set | ((with_reducible apply Blk.set_ne); focus (first | (simp; done) | (simp; omega))) | with_reducible apply Blk.drewN | with_reducible apply Blk.drew))) hb
  have P1 := P.below hbw
  have A1 := A.below hbw
  have hws := hbw.size
  have hc := A1.hd.cell; have hcf := A1.hd.frozen
  clear hb hfd
  go_wp2_with fail
  refine (get_some pb B n ever i l s _ P1 hs hi hall hat he).mono ?_
  rintro e w2 ⟨rfl, T, P2⟩
  have hplt := P.hd.lt
  have hBlt := P.lt
  have A2 : BatchAt w2 bb pb most base lv es := A1.turn T hbp hbB hb1 hb2
  have Bx2 := T.blk Bx (by omega) (by omega)
  clear hc hcf
  have hc := A2.hd.cell; have hcf := A2.hd.frozen
  have hxc := Bx2.cell; have hxf := Bx2.frozen
  go_wp2_with fail
  have hbl := A2.hd.lt
  have hxl := Bx2.lt
  have own3 : (w2.drew.alloc (.cells #[.int .u32 h, .int .u16 p, .int .i64 i] 90)).ownsRow base 90 3 lv es.length (entCells es) := World.ownsRow.alloc (w := w2.drew) A2.own _
  have hsz2 : base ≤ (w2.drew.alloc (.cells #[.int .u32 h, .int .u16 p, .int .i64 i] 90)).heap.size := by simp; omega
  have hnews := World.news_of_block (heap_alloc_new w2.drew (.cells #[.int .u32 h, .int .u16 p, .int .i64 i] 90))
  go_region_law (refine step_append_lies _ rfl (.tmp 30) (.tmp 34) 86 rfl base 90 i0 _ 3 16 Try.underlying86 hi0 hz0 hz1 hz2 rfl (by decide) lv es.length (entCells es) rfl own3 ⟨w2.heap.size, 0, none⟩ 1 1 [.int .u32 h, .int .u16 p, .int .i64 i] rfl rfl hnews (by simp [Value.oneCell']) (by decide) (by unfold maxLen; omega) (by omega) hsz2 _ rfl ?_; intro g cap w' ho hg hl hlt; have hB9 := blk_grown A2.hd A2.own hb3 hg; have hq := hB9.cell; have hqf := hB9.frozen)
  all_goals
    have hP3 : PoolAt w' pb B n (l.set i ⟨true, s⟩) (ever + 1) := pool_grown P2 A2.own hb1 hb2 hg
    have hT3 : TurnB pb B bb lv.ownBlock w w' := turnB_of hbw T hg
    have ho2 : w'.ownsRow base 90 3 (.slice (some ⟨g, 0, none⟩) (es.length + 1) cap) (es ++ [(⟨h, p, i⟩ : Ent)]).length (entCells (es ++ [(⟨h, p, i⟩ : Ent)])) := by
      have e1 : (es ++ [(⟨h, p, i⟩ : Ent)]).length = es.length + 1 := by simp
      have e2 : entCells (es ++ [(⟨h, p, i⟩ : Ent)]) = entCells es ++ [.int .u32 h, .int .u16 p, .int .i64 i] := by simp [entCells]
      rw [e1, e2]; exact ho
    have hgw : lv.ownBlock = some g ∨ w.heap.size ≤ g := by
      rcases hl with hl | hl
      · exact Or.inl hl
      · have : w2.heap.size ≤ g := by rw [hl]; simp
        exact Or.inr (by omega)
    have H1 := Lib.hid hP3
    have H2 := Lib.hid hT3
    have H3 := Lib.hid ho2
    have H4 := Lib.hid hgw
    have H5 := Lib.hid hB9
    clear hP3 hT3 ho2 hgw hB9 hg hl ho hnews own3 hq hqf hc hcf hxc hxf hlt
    go_wp2
    go_ret
    refine ⟨rfl, .slice (some ⟨g, 0, none⟩) (es.length + 1) cap, H1.out.other (by omega) (by omega), ⟨H5.out.set.conv rfl, ownsRow_setCell_below H3.out (a := ⟨bb, 2, none⟩) hb3 _⟩, H2.out.set, ?_⟩
    rcases H4.out with h | h
    · exact Or.inl h.symm
    · exact Or.inr ⟨g, rfl, h⟩
end Go.Proofs.Ytkfgbaieghlhkaa
