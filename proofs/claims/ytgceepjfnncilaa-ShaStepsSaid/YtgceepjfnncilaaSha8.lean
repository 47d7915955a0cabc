/- Package sha: Sum. -/
import Derived.Test.YtgceepjfnncilaaSha7
namespace Go.Proofs.Ytgceepjfnncilaa
open Go.RowKit

/-- A text's sum. -/
def wordsL (s : List UInt8) : List Nat := sumGo ((wholeL s).length / 64) constH (wholeL s)
def sumL (s : List UInt8) : List UInt8 := textL (wordsL s)
theorem whole_len (s : List UInt8) : (wholeL s).length = s.length + 9 + padN s.length := by
  simp [wholeL, be64]; omega
theorem whole_mod (s : List UInt8) : (wholeL s).length % 64 = 0 := by
  rw [whole_len]; unfold padN; omega
theorem whole_le (s : List UInt8) : (wholeL s).length ≤ s.length + 72 := by
  rw [whole_len]; unfold padN; omega
theorem textL_snoc (l : List Nat) (x : Nat) : textL (l ++ [x]) = textL l ++ putB x 4 := by
  unfold textL
  rw [List.flatMap_append]
  congr 1
  simp [putB, List.range_succ]
theorem textL_len (l : List Nat) : (textL l).length = 4 * l.length := by
  unfold textL
  induction l with
  | nil => rfl
  | cons a r ih =>
    rw [List.flatMap_cons, List.length_append, ih]
    show 4 + _ = 4 * (r.length + 1)
    omega
def Words (H : List Nat) : Prop := H.length = 8 ∧ ∀ x, x ∈ H → x < 4294967296
theorem words_form {H : List Nat} (h : Words H) : ∃ h0 h1 h2 h3 h4 h5 h6 h7, H = [h0, h1, h2, h3, h4, h5, h6, h7] ∧ SLt ⟨h0, h1, h2, h3, h4, h5, h6, h7⟩ := by
  match H, h.1, h.2 with
  | [h0, h1, h2, h3, h4, h5, h6, h7], _, h2' => exact ⟨h0, h1, h2, h3, h4, h5, h6, h7, rfl, h2' _ (by simp), h2' _ (by simp), h2' _ (by simp), h2' _ (by simp), h2' _ (by simp), h2' _ (by simp), h2' _ (by simp), h2' _ (by simp)⟩
theorem step_words (H : List Nat) (s : List UInt8) : Words (stepL H s) := by
  refine ⟨rfl, fun x hx => ?_⟩
  unfold stepL at hx
  simp only [List.mem_cons, List.mem_nil_iff, or_false] at hx
  rcases hx with h | h | h | h | h | h | h | h <;> (rw [h]; exact add32_lt _ _)
theorem start_words : Words constH := ⟨by kernel_rfl, fun x hx => by
  have h5 : constH.all (· < 4294967296) = true := by kernel_rfl
  exact of_decide_eq_true (List.all_eq_true.1 h5 x hx)⟩
theorem sumGo_words : ∀ (n : Nat) (H : List Nat) (s : List UInt8), Words H → Words (sumGo n H s)
  | 0, _, _, h => h
  | n + 1, H, s, h => by
    unfold sumGo
    split
    · exact h
    · exact sumGo_words n _ _ (step_words _ _)
theorem words_words (s : List UInt8) : Words (wordsL s) := sumGo_words _ _ _ start_words
theorem sumL_len (s : List UInt8) : (sumL s).length = 32 := by
  unfold sumL; rw [textL_len, (words_words s).1]
theorem step_list (H : List Nat) (hH : Words H) (kb : Nat) (s : ByteArray) (w : World) (hs : s.size = 64) (B : Blk w kb (nums .u32 constK).toArray 36) :
    Calls Try.prog 39 #[.agg (nums .u32 H).toArray, .pointer (some ⟨kb, 0, none⟩), .string s] w fun e w' => e = .returned (.agg (nums .u32 (stepL H s.data.toList)).toArray) ∧ Below w.heap.size w w' := by
  obtain ⟨h0, h1, h2, h3, h4, h5, h6, h7, rfl, hl⟩ := words_form hH
  refine step_any h0 h1 h2 h3 h4 h5 h6 h7 kb s w hs hl B.lt (fun i hi => ?_)
  rw [B.cell, List.getElem?_toArray, nums_get _ _ _ (by exact hi)]
theorem setCells_blk2 (b : Nat) (t : TypeId) : ∀ (vs : List Value) (o : Nat) (w : World) (cs : List Value), Blk w b cs.toArray t → o + vs.length ≤ cs.length → Blk (w.setCells b o vs) b ((cs.take o ++ vs ++ cs.drop (o + vs.length)).toArray) t
  | [], o, w, cs, B, hs => by
    rw [List.append_nil, List.length_nil, Nat.add_zero, List.take_append_drop]; exact B
  | v :: r, o, w, cs, B, hs => by
    have B1 : Blk (w.setCell ⟨b, o, none⟩ v) b (cs.set o v).toArray t := (B.set (o := o) (v := v)).conv (by rw [List.setIfInBounds_toArray])
    have hs' : o + 1 + r.length ≤ (cs.set o v).length := by simp at hs ⊢; omega
    have := setCells_blk2 b t r (o + 1) _ _ B1 hs'
    refine this.conv ?_
    congr 1
    have ho : o < cs.length := by simp at hs ⊢; omega
    rw [List.take_add_one, List.take_set_of_le (Nat.le_refl o), List.getElem?_set_self ho, List.drop_set_of_lt (by omega), List.length_cons]
    rw [show o + 1 + r.length = o + (r.length + 1) by omega]
    simp
/-- The sum's bytes, the first 4 * i of them. -/
def outAt (H : List Nat) (i : Nat) : List Value := (textL (H.take i)).map bval ++ List.replicate (32 - 4 * i) (Value.int .u8 0)
theorem outAt_len (H : List Nat) (i : Nat) (hH : H.length = 8) (hi : i ≤ 8) : (outAt H i).length = 32 := by
  simp [outAt, textL_len]; omega
theorem outAt_next (H : List Nat) (i : Nat) (hH : H.length = 8) (hi : i < 8) : (outAt H i).take (4 * i) ++ (putB (H.getD i 0) 4).map bval ++ (outAt H i).drop (4 * i + ((putB (H.getD i 0) 4).map bval).length) = outAt H (i + 1) := by
  have hl : ((textL (H.take i)).map bval).length = 4 * i := by simp [textL_len]; omega
  rw [List.length_map, putB_len]
  unfold outAt
  rw [List.take_left' hl, List.drop_append, List.drop_of_length_le (by omega), hl, List.nil_append, List.drop_replicate]
  rw [show H.take (i + 1) = H.take i ++ [H.getD i 0] by
    rw [List.take_add_one, List.getElem?_eq_getElem (by omega), List.getD_eq_getElem?_getD, List.getElem?_eq_getElem (by omega)]; rfl]
  rw [textL_snoc, List.map_append]
  congr 2
  omega
theorem outAt_all (H : List Nat) (hH : H.length = 8) : outAt H 8 = (textL H).map bval := by
  unfold outAt
  rw [List.take_of_length_le (by omega)]; simp
/-- An array's element, by its number. -/
theorem run_index_arr {P : Program} (w : World) (t e : TypeId) (n : Nat) (cs : Array Value) (k : IntKind) (i : Nat) (v : Value) (hu : P.underlying t = some (.array n e))
    (ha : ∀ w, (Go.isAgg e).run P w = .ok false w) (hz : ∀ w, (Go.sizeOf e).run P w = .ok 1 w) (hi : i < n) (hg : cs[i]? = some v) :
    (Instr.index t (.agg cs) (.int k i)).run P w = .ok v w := by
  have h1 : (0 : Int) ≤ i ∧ (i : Int) < n := by omega
  simp [Instr.index, asIntOf, run_underlying hu, hi, part, ha, hz, hg]
/-- The loops' state. -/
structure SAt (w W : World) (hb kb : Nat) (H : List Nat) : Prop where
  HB : Below w.heap.size w W
  B2 : Blk W w.heap.size (outAt H 0).toArray 26
  BH : Blk W hb (nums .u32 H).toArray 35
  BK : Blk W kb (nums .u32 constK).toArray 36
  lo : w.heap.size < hb
  ne : hb < kb
theorem SAt.below {w W W' : World} {hb kb : Nat} {H : List Nat} (h : SAt w W hb kb H) (g : Below W.heap.size W W') : SAt w W' hb kb H :=
  ⟨Below.thn h.HB g h.HB.size, h.B2.below g, h.BH.below g, h.BK.below g, h.lo, h.ne⟩
theorem SAt.put {w W W' : World} {hb kb : Nat} {H H' : List Nat} (h : SAt w W hb kb H) (hp : Put hb W W') (B : Blk W' hb (nums .u32 H').toArray 35) : SAt w W' hb kb H' :=
  ⟨hp.below (Nat.le_of_lt h.lo) h.HB, hp.blk (by have := h.lo; omega) h.B2, B, hp.blk (by have := h.ne; omega) h.BK, h.lo, h.ne⟩

set_option maxHeartbeats 4000000 in
set_option maxRecDepth 20000 in
theorem sum_any (v : Value) (T : ByteArray) (w : World) (hT : T.size ≤ 10000)
    (hJ : ∀ W, Below w.heap.size w W → Calls Try.prog 38 #[v, .string ⟨#[]⟩] W fun e w' => e = .returned (.string T) ∧ Below W.heap.size W w') :
    Calls Try.prog 13 #[v] w fun e w' => e = .returned (.agg ((sumL T.data.toList).map bval).toArray) ∧ Below w.heap.size w w' := by
  obtain ⟨F, hF⟩ : ∃ F, wordsL T.data.toList = F := ⟨_, rfl⟩
  have hFw : Words F := by rw [← hF]; exact words_words _
  have hsum : sumL T.data.toList = textL F := by rw [← hF]; rfl
  rw [hsum]
  obtain ⟨S, hS⟩ : ∃ S : ByteArray, (⟨(wholeL T.data.toList).toArray⟩ : ByteArray) = S := ⟨_, rfl⟩
  have hSl : S.data.toList = wholeL T.data.toList := by rw [← hS]
  have hSs : S.size = (wholeL T.data.toList).length := by rw [← hSl]; rfl
  obtain ⟨N, hN⟩ : ∃ N, S.size = 64 * N := ⟨S.size / 64, by rw [hSs]; have := whole_mod T.data.toList; omega⟩
  have hgo : sumGo N constH S.data.toList = F := by
    rw [← hF, hSl]; unfold wordsL; rw [← hSs, hN, Nat.mul_div_cancel_left _ (by decide)]
  have hW := fun W => whole_any T W (by omega)
  rw [hS] at hW
  have HW := Lib.hid hW; have HJ := Lib.hid hJ; have HGO := Lib.hid hgo; have HN := Lib.hid hN; have HFW := Lib.hid hFw
  clear hW hJ hgo hN hFw hF hsum hS hSl hSs
  have hks : (nums .u32 constK).toArray.size = 64 := by kernel_rfl
  have hhs : (nums .u32 constH).toArray.size = 8 := by kernel_rfl
  have hK1 : (nums .u32 constK).toArray.all (·.oneCell') = true := by kernel_rfl
  have hH1 : (nums .u32 constH).toArray.all (·.oneCell') = true := by kernel_rfl
  go_enter Try.func13, Try.ntmps13
  go_wp2_with fail
  refine (start_any _).mono ?_
  rintro e W1 ⟨rfl, hb⟩
  have HB : Below w.heap.size w W1 := Below.thn (by (repeat (first | (with_reducible assumption) | (with_reducible exact Below.refl _ _) | with_reducible apply bl_drewN | with_reducible apply Below.drew | (with_reducible apply bl_alloc; focus (first | (simp; done) | (simp; omega) | omega)) | (with_reducible apply bl_set; focus (first | (simp; done) | (simp; omega) | omega))))) hb
  have HBs := HB.size
  have B2 := Blk.below (b := w.heap.size) (t := 26) (by (repeat (first | (with_reducible assumption) | (with_reducible apply Blk.new'; (first | (with_reducible rfl) | (simp; done))) | with_reducible apply Blk.alloc | with_reducible apply Blk.set | ((with_reducible apply Blk.set_ne); focus (first | (simp; done) | (simp; omega))) | with_reducible apply Blk.drewN | with_reducible apply Blk.drew))) hb
  have B2c := B2.cell; have B2f := B2.frozen; have B2l := B2.lt
  clear hb
  go_wp2_with fail
  refine (keys_any _).mono ?_
  rintro e W2 ⟨rfl, hb⟩
  have HB : Below w.heap.size w W2 := Below.thn (by (repeat (first | (with_reducible assumption) | (with_reducible exact Below.refl _ _) | with_reducible apply bl_drewN | with_reducible apply Below.drew | (with_reducible apply bl_alloc; focus (first | (simp; done) | (simp; omega) | omega)) | (with_reducible apply bl_set; focus (first | (simp; done) | (simp; omega) | omega))))) hb
  have HBs := HB.size
  have B2 := Blk.below (b := w.heap.size) (t := 26) (by (repeat (first | (with_reducible assumption) | (with_reducible apply Blk.new'; (first | (with_reducible rfl) | (simp; done))) | with_reducible apply Blk.alloc | with_reducible apply Blk.set | ((with_reducible apply Blk.set_ne); focus (first | (simp; done) | (simp; omega))) | with_reducible apply Blk.drewN | with_reducible apply Blk.drew))) hb
  have B2c := B2.cell; have B2f := B2.frozen; have B2l := B2.lt
  clear hb
  have B2' : Blk W2 w.heap.size (outAt constH 0).toArray 26 := B2.conv rfl
  clear B2 B2c B2f B2l
  obtain ⟨KK, hKK⟩ : ∃ K, (nums .u32 constK).toArray = K := ⟨_, rfl⟩
  obtain ⟨HH, hHH⟩ : ∃ K, (nums .u32 constH).toArray = K := ⟨_, rfl⟩
  rw [hKK, hHH]
  rw [hKK] at hks hK1
  rw [hHH] at hhs hH1
  have hWs := HB.size
  have hB2l := B2'.lt
  go_wp2_with (first | (refine wpList_put rfl 35 _ _ rfl W2.heap.size _ _ 35 rfl rfl (by (repeat (first | (with_reducible assumption) | (with_reducible apply Blk.new'; (first | (with_reducible rfl) | (simp; done))) | with_reducible apply Blk.alloc | with_reducible apply Blk.set | ((with_reducible apply Blk.set_ne); focus (first | (simp; done) | (simp; omega))) | with_reducible apply Blk.drewN | with_reducible apply Blk.drew))) (by rw [hhs]; kernel_rfl) (hhs.trans rfl) hH1 (fun W9 hp9 B9 => ?_)) | (refine wpList_put rfl 36 _ _ rfl (W2.heap.size + 1) _ _ 36 rfl rfl (hp9.blk (by simp) (by (repeat (first | (with_reducible assumption) | (with_reducible apply Blk.new'; (first | (with_reducible rfl) | (simp; done))) | with_reducible apply Blk.alloc | with_reducible apply Blk.set | ((with_reducible apply Blk.set_ne); focus (first | (simp; done) | (simp; omega))) | with_reducible apply Blk.drewN | with_reducible apply Blk.drew)))) (by rw [hks]; kernel_rfl) (hks.trans rfl) hK1 (fun W10 hp10 B10 => ?_)))
  have V : SAt w W10 W2.heap.size (W2.heap.size + 1) constH := by
    subst hKK hHH
    refine ⟨hp10.below (by omega) (hp9.below (by omega) ?_), hp10.blk (by omega) (hp9.blk (by omega) ?_), hp10.blk (by omega) B9, B10, hB2l, by omega⟩
    · repeat (first | (with_reducible assumption) | (with_reducible exact Below.refl _ _) | with_reducible apply bl_drewN | with_reducible apply Below.drew | (with_reducible apply bl_alloc; focus (first | (simp; done) | (simp; omega) | omega)) | (with_reducible apply bl_set; focus (first | (simp; done) | (simp; omega) | omega)))
    · exact Blk.alloc (Blk.alloc B2')
  clear B2' B9 B10 hp9 hp10 HB HBs hK1 hH1 hks hhs hWs hB2l hKK hHH
  obtain ⟨bh, hbh⟩ : ∃ b, W2.heap.size = b := ⟨_, rfl⟩
  obtain ⟨bk, hbk⟩ : ∃ b, bh + 1 = b := ⟨_, rfl⟩
  rw [hbh] at V ⊢
  rw [hbk] at V ⊢
  clear hbh hbk
  refine (HJ.out W10 V.HB).mono ?_
  rintro e W3 ⟨rfl, hb3⟩
  have V3 := V.below hb3
  clear V hb3 HJ
  go_wp2_with fail
  refine (HW.out _).mono ?_
  rintro e W4 ⟨rfl, hb4⟩
  have V4 := V3.below hb4
  clear V3 hb4 HW
  go_wp2_with fail
  go_loopg [5] N (fun gk t5 wr => ∃ (S : ByteArray) (H : List Nat), t5 = .string S ∧ S.size = 64 * gk ∧ Words H ∧ sumGo gk H S.data.toList = F ∧ SAt w wr bh bk H)
  case atStart => exact ⟨S, constH, rfl, HN.out, start_words, HGO.out, V4⟩
  case round =>
    clear V4 HN HGO
    obtain ⟨S, H, rfl, hN, hHw, hgo, V⟩ := hrel
    cases gk with
    | zero =>
      obtain rfl : S = ⟨#[]⟩ := by
        have h0 : S.data.size = 0 := by show S.size = 0; omega
        have : S.data = #[] := Array.eq_empty_of_size_eq_zero h0
        show (⟨S.data⟩ : ByteArray) = _
        rw [this]
      have hF : H = F := hgo
      subst hF
      clear hgo hN
      have hHs : (nums .u32 H).toArray.size = 8 := by rw [List.size_toArray, nums_length, hHw.1]
      have hwrs := V.HB.size
      go_wp2_with (refine wpList_load_row rfl 35 _ rfl bh rfl 35 _ (0, 0) _ (Blk.alloc V.BH).out Try.underlying35 rfl (by rw [hHs]; kernel_rfl) ?_)
      have HB := V.HB
      have Q2 := V.B2
      refine wp_abs2 (n := w.heap.size) (w := w) w.heap.size 26 wr.heap.size 26 (by (repeat (first | (with_reducible assumption) | (with_reducible exact Below.refl _ _) | with_reducible apply bl_drewN | with_reducible apply Below.drew | (with_reducible apply bl_alloc; focus (first | (simp; done) | (simp; omega) | omega)) | (with_reducible apply bl_set; focus (first | (simp; done) | (simp; omega) | omega))))) (by (repeat (first | (with_reducible assumption) | (with_reducible apply Blk.new'; (first | (with_reducible rfl) | (simp; done))) | with_reducible apply Blk.alloc | with_reducible apply Blk.set | ((with_reducible apply Blk.set_ne); focus (first | (simp; done) | (simp; omega))) | with_reducible apply Blk.drewN | with_reducible apply Blk.drew))) (by (repeat (first | (with_reducible assumption) | (with_reducible apply Blk.new'; (first | (with_reducible rfl) | (simp; done))) | with_reducible apply Blk.alloc | with_reducible apply Blk.set | ((with_reducible apply Blk.set_ne); focus (first | (simp; done) | (simp; omega))) | with_reducible apply Blk.drewN | with_reducible apply Blk.drew))) (fun W5 HB5 Q5 B5 => ?_)
      have hlt5 := B5.lt
      have B6 : Blk W5 wr.heap.size (outAt H 0).toArray 26 := B5.conv rfl
      have Q6 : Blk W5 w.heap.size (outAt H 0).toArray 26 := Q5.conv rfl
      have hob : w.heap.size < wr.heap.size := V.B2.lt
      clear Q2 Q5 B5 V HB
      obtain ⟨ob, hobe⟩ : ∃ b, wr.heap.size = b := ⟨_, rfl⟩
      rw [hobe] at B6 hob hlt5 ⊢
      clear hobe hwrs
      obtain ⟨HV, hHV⟩ : ∃ K, (nums .u32 H).toArray = K := ⟨_, rfl⟩
      rw [hHV]
      have hHG : ∀ i, i < 8 → HV[i]? = some (.int .u32 (H.getD i 0 : Nat)) := fun i hi => by
        rw [← hHV, List.getElem?_toArray, nums_get _ _ _ (by rw [hHw.1]; exact hi)]
      have hHVs : HV.size = 8 := by rw [← hHV]; exact hHs
      have HG := Lib.hid hHG
      have HHW := Lib.hid hHw
      clear hHG hHw hHV hHs
      go_wp2_with fail
      go_loopg [23] 8 (fun gk t23 wr => ∃ i : Nat, t23 = .int .i64 i ∧ i + gk = 8 ∧ Below w.heap.size w wr ∧ Blk wr w.heap.size (outAt H 0).toArray 26 ∧ Blk wr ob (outAt H i).toArray 26)
      case atStart => exact ⟨0, rfl, rfl, HB5, Q6, B6⟩
      case round =>
        clear HB5 Q6 B6 hlt5
        obtain ⟨i, rfl, hi, HB, Q, B⟩ := hrel
        have HBs := HB.size
        have hQl := Q.lt
        have hBl := B.lt
        cases gk with
        | zero =>
          obtain rfl : i = 8 := by omega
          have hos : (outAt H 8).toArray.size = 32 := by rw [List.size_toArray]; exact outAt_len H 8 HHW.out.1 (by omega)
          have hos0 : (outAt H 0).toArray.size = 32 := by rw [List.size_toArray]; exact outAt_len H 0 HHW.out.1 (by omega)
          have hall : (outAt H 8).toArray.all (·.oneCell') = true := all_oneCell_toArray (fun v hv => by
            rw [outAt_all H HHW.out.1] at hv
            obtain ⟨n, _, rfl⟩ := List.mem_map.1 hv; rfl)
          have hfin := outAt_all H HHW.out.1
          obtain ⟨OV, hOV⟩ : ∃ K, (outAt H 8).toArray = K := ⟨_, rfl⟩
          rw [hOV] at B hos hall
          go_wp2_with (first | (refine wpList_load_row rfl 26 _ rfl ob rfl 26 _ (0, 0) _ B.out Try.underlying26 rfl (by rw [hos]; kernel_rfl) ?_) | (refine wpList_put rfl 26 _ _ rfl w.heap.size _ _ 26 rfl rfl Q (by rw [hos]; kernel_rfl) (hos.trans hos0.symm) hall (fun W9 hp9 B9 => ?_)))
          refine bodyPost_ret (v := .agg OV) ?_ rfl ⟨by rw [← hOV, hfin], hp9.below (Nat.le_refl _) HB⟩
          exact results_cell_row (Try.results13) _ _ w.heap.size 26 _ (0, 0) _ rfl B9.out Try.underlying26 rfl (by rw [hos]; kernel_rfl)
        | succ gk =>
          have hil : i < 8 := by omega
          have hi8 : (i : Int) < 8 := by omega
          obtain ⟨x, hx⟩ : ∃ x, H.getD i 0 = x := ⟨_, rfl⟩
          have hget := HG.out i hil
          rw [hx] at hget
          have hxl : x < 4294967296 := by
            rw [← hx, List.getD_eq_getElem?_getD, List.getElem?_eq_getElem (by rw [HHW.out.1]; exact hil)]
            exact HHW.out.2 _ (List.getElem_mem _)
          obtain ⟨p, hp⟩ : ∃ p, 4 * i = p := ⟨_, rfl⟩
          have hpi : (4 : Int) * i = (p : Int) := by omega
          have hp32 : (p : Int) ≤ 32 := by omega
          have hnext := outAt_next H i HHW.out.1 hil
          rw [hx, hp] at hnext
          have hblen := outAt_len H i HHW.out.1 (by omega)
          have hidx := fun W => run_index_arr (P := Try.prog) W 35 34 8 HV .i64 i _ Try.underlying35 Try.isAgg34 Try.sizeOf34 hil hget
          have HX := Lib.hid hx; have HP := Lib.hid hp; have HNX := Lib.hid hnext; have HI := Lib.hid hi
          have hP := fun W => wput_any x 4 W (by omega) (by omega) (by omega)
          obtain ⟨t, ht⟩ : ∃ t : ByteArray, ⟨(putB x 4).toArray⟩ = t := ⟨_, rfl⟩
          have htl : t.data.toList = putB x 4 := by rw [← ht]
          have hts : t.size = 4 := by rw [← ht]; exact putB_len x 4
          rw [ht] at hP
          have HPT := Lib.hid hP; have HTL := Lib.hid htl; have HBL := Lib.hid hblen; have HTS := Lib.hid hts
          clear hx hp hnext hi hP ht htl hblen hts
          go_wp2_with fail
          refine wp_region_gr_tail 6 (by kernel_rfl) (by kernel_rfl) ?_
          simp only [List.take_succ_cons, List.take_zero, List.drop_succ_cons, List.drop_zero]
          repeat (first
            | go_big_quiet_skip
            | ((refine BigFrame.wpQuiet_want rfl (fun K hK => quiet_mk ?_)); apply Exists.intro; refine ⟨fun wq hq => ?_, hK _ ?_⟩
               · go_simp; (try simp only [↓IntWalk.iteOmega]); (try go_bits)
                 first | done | rfl | exact ⟨rfl, rfl⟩ | exact ⟨trivial, rfl⟩ | (go_at_call 40; refine (HPT.out _).mono ?_; rintro e wr ⟨rfl, hbr⟩; exact ⟨rfl, hq.next hbr⟩)
               clear hK K; (try simp only [Act.put, List.setIfInBounds_toArray, List.set_cons_zero, List.set_cons_succ])))
          refine wpQuiet_nil ?_
          intro W8 hw8
          have B8 := B.gr hw8
          have Q8 := Q.gr hw8
          have HB8 := Below.thn HB hw8.out HBs
          have hcs := run_copy_string (P := Try.prog) W8 30 9 3 5 ob p (32 - p) (32 - p) t Try.underlying30 Try.sizeOf5 (by have := HTS.out; omega)
            (fun j hj => by
              rw [B8.cell, List.getElem?_toArray, List.getElem?_eq_getElem (by rw [HBL.out]; have := HTS.out; omega)]; rfl)
            (fun j _ => B8.frozen _)
          have hmap : (t.data.toList.map fun c => Value.int .u8 (c.toNat : Int)) = (putB x 4).map bval := by rw [HTL.out]; rfl
          rw [hmap] at hcs
          have hpl : ((putB x 4).map bval).length = 4 := by rw [List.length_map, putB_len]
          have B9 := (setCells_blk2 ob 26 ((putB x 4).map bval) p W8 _ B8 (by rw [hpl, HBL.out]; omega)).conv (congrArg List.toArray HNX.out)
          obtain ⟨h1, h2, h3, h4, h5⟩ := setCells_os ob ((putB x 4).map bval) p W8
          have hp9 : Put ob W8 (W8.setCells ob p ((putB x 4).map bval)) := ⟨h1, h2, h3, h4, h5⟩
          have Q9 := hp9.blk (q := w.heap.size) (by omega) Q8
          have HB9 := hp9.below (by omega) HB8
          obtain ⟨W9, hW9⟩ : ∃ W9, W8.setCells ob p ((putB x 4).map bval) = W9 := ⟨_, rfl⟩
          rw [hW9] at hcs B9 Q9 HB9
          clear hp9 h1 h2 h3 h4 h5 hW9 hmap hpl B8 Q8 HB8 hw8 B Q HB HBs hQl hBl hget hidx
          go_wp2_with fail
          go_roundg gk
          case rel => exact ⟨i + 1, by simp, by have := HI.out; omega, HB9, Q9, B9⟩
          case measure => omega
    | succ gk =>
      have hne : S.toList.isEmpty = false := by
        rw [ba_toList, List.isEmpty_eq_false_iff]
        intro h
        have : S.data.size = 0 := by rw [← Array.length_toList, h]; rfl
        exact absurd this (by show S.size ≠ 0; omega)
      have hle : (64 : Int) ≤ (S.size : Int) := by omega
      have hl64 : S.data.toList.length = 64 * (gk + 1) := hN
      have hgo2 : sumGo gk (stepL H (S.data.toList.take 64)) (S.data.toList.drop 64) = F := by
        rw [← hgo]
        show _ = if S.data.toList = [] then H else _
        rw [if_neg (by intro h; rw [h] at hl64; simp at hl64)]
      have HGO := Lib.hid hgo2
      have HN := Lib.hid hN
      clear hgo hgo2 hl64 hN
      obtain ⟨S64, hS64⟩ : ∃ t, S.extract 0 64 = t := ⟨_, rfl⟩
      have hSl : S64.data.toList = S.data.toList.take 64 := by rw [← hS64, ba_extract]; simp
      have hS6 : S64.size = 64 := by rw [← hS64, ByteArray.size_extract]; have := HN.out; omega
      obtain ⟨SR, hSR⟩ : ∃ t, S.extract 64 S.size = t := ⟨_, rfl⟩
      have hSRl : SR.data.toList = S.data.toList.drop 64 := by
        rw [← hSR, ba_extract, List.take_of_length_le (by rw [List.length_drop]; exact Nat.le_refl _)]
      have hSRs : SR.size = 64 * gk := by rw [← hSR, ByteArray.size_extract]; have := HN.out; omega
      obtain ⟨H2, hH2⟩ : ∃ K, stepL H (S.data.toList.take 64) = K := ⟨_, rfl⟩
      have hw2 : Words H2 := by rw [← hH2]; exact step_words _ _
      have hgo := HGO.out
      rw [hH2, ← hSRl] at hgo
      have hst := fun W (B : Blk W bk (nums .u32 constK).toArray 36) => step_list H hHw bk S64 W hS6 B
      rw [hSl, hH2] at hst
      obtain ⟨h0, h1, h2, h3, h4, h5, h6, h7, rfl, hlt⟩ := words_form hHw
      have BHx : Blk wr bh (c35 h0 h1 h2 h3 h4 h5 h6 h7) 35 := V.BH.conv rfl
      have HST := Lib.hid hst; have HGO2 := Lib.hid hgo
      have HSR := Lib.hid hSRs
      clear hst hgo HGO hHw hlt hSl hS6 hSRl hSRs hH2
      have V' := Lib.hid V
      clear V
      go_wp2_with fail
      refine wp_region_typed 4 (fun k => match k with  | _ => []) (fun k => match k with  | _ => false) (fun k => match k with | 3 => some ⟨(Unit), (()), (fun _ => .agg (nums .u32 H2).toArray), (fun _ _ => True), (fun _ _ _ h _ => h)⟩ | _ => none) (by kernel_rfl) (by kernel_rfl) (by intro d0 v0 c0 a0 w0 h0; first | (cases d0 <;> exact h0) | exact hP _ _ _ _ _ h0) ?_
      rw [show List.range 4 = [0, 1, 2, 3] from rfl]
      first
        | (refine ty_skip rfl rfl ?_; (try simp only [Act.put, List.setIfInBounds_toArray, List.set_cons_zero, List.set_cons_succ]))
        | (refine ty_pure rfl rfl rfl rfl ?_; apply Exists.intro; refine ⟨fun wq hq hk => ?_, ?_⟩
           · have f0 := hq.blk BHx; simp only [pureAt]; go_simp; (try simp only [↓IntWalk.iteOmega]); (try go_bits); (try simp only [pureUpon]); (first | done | exact ⟨rfl, rfl⟩ | exact ⟨trivial, rfl⟩ | rfl)
           (try simp only [Act.put, List.setIfInBounds_toArray, List.set_cons_zero, List.set_cons_succ]))
      first
        | (refine ty_skip rfl rfl ?_; (try simp only [Act.put, List.setIfInBounds_toArray, List.set_cons_zero, List.set_cons_succ]))
        | (refine ty_pure rfl rfl rfl rfl ?_; apply Exists.intro; refine ⟨fun wq hq hk => ?_, ?_⟩
           · have f0 := hq.blk BHx; simp only [pureAt]; go_simp; (try simp only [↓IntWalk.iteOmega]); (try go_bits); (try simp only [pureUpon]); (first | done | exact ⟨rfl, rfl⟩ | exact ⟨trivial, rfl⟩ | rfl)
           (try simp only [Act.put, List.setIfInBounds_toArray, List.set_cons_zero, List.set_cons_succ]))
      first
        | (refine ty_skip rfl rfl ?_; (try simp only [Act.put, List.setIfInBounds_toArray, List.set_cons_zero, List.set_cons_succ]))
        | (refine ty_pure rfl rfl rfl rfl ?_; apply Exists.intro; refine ⟨fun wq hq hk => ?_, ?_⟩
           · have f0 := hq.blk BHx; simp only [pureAt]; go_simp; (try simp only [↓IntWalk.iteOmega]); (try go_bits); (try simp only [pureUpon]); (first | done | exact ⟨rfl, rfl⟩ | exact ⟨trivial, rfl⟩ | rfl)
           (try simp only [Act.put, List.setIfInBounds_toArray, List.set_cons_zero, List.set_cons_succ]))
      refine ty_rel rfl rfl _ rfl rfl (fun wq hq hk => ?_) ?_
      · have f0 := hq.blk BHx; simp only [relAt]; go_simp; (try simp only [relUpon]); (go_at_call 39; refine (HST.out _ (V'.out.below hq.out).BK).mono ?_; rintro e w9 ⟨rfl, hb9⟩; exact ⟨_, rfl, .mk hb9 () rfl trivial⟩)
      rintro ⟨⟩
      (try simp only [Act.put, List.setIfInBounds_toArray, List.set_cons_zero, List.set_cons_succ])
      refine ty_nil ?_
      simp only [List.drop_succ_cons, List.drop_zero]
      intro W5 hw5 hΓ
      have V5 := V'.out.below hw5.out
      clear hΓ hw5 BHx
      have hs8 : (nums .u32 H2).toArray.size = 8 := by rw [List.size_toArray, nums_length, hw2.1]
      have hall : (nums .u32 H2).toArray.all (·.oneCell') = true := all_oneCell_toArray (fun v hv => by
        obtain ⟨n, _, rfl⟩ := List.mem_map.1 hv; rfl)
      refine wpList_put rfl 35 _ _ rfl bh _ _ 35 rfl rfl V5.BH (by rw [hs8]; kernel_rfl) (hs8.trans rfl) hall (fun W9 hp9 B9 => ?_)
      have V9 := V5.put hp9 B9
      clear V5 hp9 B9 V' hall hs8
      go_wp2_with fail
      go_roundg gk
      case rel => exact ⟨SR, H2, rfl, HSR.out, hw2, HGO2.out, V9⟩
      case measure => omega
end Go.Proofs.Ytgceepjfnncilaa
