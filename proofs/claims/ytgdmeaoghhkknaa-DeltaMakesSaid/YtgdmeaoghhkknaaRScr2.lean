/- The document's screens: New. -/
import Derived.Test.YtgdmeaoghhkknaaRScr1
namespace Go.Proofs.Ytgdmeaoghhkknaa
open Go.RowKit

theorem blk_grown {W w' : World} {b : Nat} {cs : Array Value} {t : TypeId} {row : Option Nat} (B : Blk W b cs t) (hg : W.grownBy w' row) (h : some b ≠ row) : Blk w' b cs t := ⟨(hg.block b B.lt h).trans B.out⟩
theorem own_set_ne {w : World} {base e size n : Nat} {v u : Value} {xs : List Value} {p : Addr} (h : w.ownsRow base e size v n xs) (hp : p.block < base) : (w.setCell p u).ownsRow base e size v n xs :=
  ⟨by simpa [World.setCell] using h.1, by
    rcases h.2 with h5 | ⟨b, c, cur, h5, h6, h7, h8⟩
    · exact Or.inl h5
    · exact Or.inr ⟨b, c, cur, h5, h6, (Below.heap_setCell _ _ _ _ (by omega)).trans h7, h8⟩⟩
theorem strs_rep (j : Nat) (bl : ByteArray) : strs (List.replicate j bl) ++ [.string bl] = strs (List.replicate (j + 1) bl) := by
  rw [← strs_snoc, ← List.replicate_succ']
theorem RowAt.set_ne {w : World} {b off : Nat} {rows : List ByteArray} (h : RowAt w b off rows) {a : Addr} (ha : b ≠ a.block) (v : Value) : RowAt (w.setCell a v) b off rows :=
  ⟨by simpa [World.setCell] using h.lt, fun j hj => (World.cell?_of_block (a := ⟨b, off + j, none⟩) (Below.heap_setCell _ _ _ _ ha)).trans (h.cell j hj)⟩
theorem new_rows (cw ch j : Nat) (h : j < ch) : (txt (newS cw ch).b).extract (j * cw) ((j + 1) * cw) = txt (List.replicate cw 32) := by
  apply ba_ext
  rw [ba_extract]
  have e : (j + 1) * cw = j * cw + cw := Nat.succ_mul _ _
  have hle : (j + 1) * cw ≤ cw * ch := by rw [Nat.mul_comm cw]; exact Nat.mul_le_mul_right _ h
  simp only [txt, newS, List.drop_replicate, List.take_replicate]
  congr 1
  omega
abbrev z41 : Array Value := #[.int .i64 0, .int .i64 0, .int .i64 0, .int .i64 0, .slice none 0 0]
set_option maxHeartbeats 4000000 in
set_option maxRecDepth 20000 in
theorem rnew_any (cw ch : Nat) (w : World) (w1 : 1 ≤ cw) (w2 : cw ≤ 80) (h1 : 1 ≤ ch) (h2 : ch ≤ 24) :
    Calls Try.prog 19 #[.int .i64 cw, .int .i64 ch] w fun e w' => ∃ v, e = .returned v ∧ RScrAt w' v (newS cw ch) ∧ Below w.heap.size w w' := by
  obtain ⟨i0, hi0, hz0, hz1, hz2⟩ := info_parts info9
  obtain ⟨bl, hbl⟩ : ∃ bl, txt (List.replicate cw 32) = bl := ⟨_, rfl⟩
  have hB := fun W => rblank_any cw W (by omega)
  rw [hbl] at hB
  have CB := Lib.hid hB
  have HBL := Lib.hid hbl
  clear hB hbl
  go_enter Try.func19, Try.ntmps19
  go_wp2_with fail
  refine wp_abs2 (n := w.heap.size) (w := w) w.heap.size 41 (w.heap.size + 1) 41 (by (repeat (first | (with_reducible assumption) | (with_reducible exact Below.refl _ _) | with_reducible apply bl_drewN | with_reducible apply Below.drew | (with_reducible apply bl_alloc; focus (first | (simp; done) | (simp; omega) | omega)) | (with_reducible apply bl_set; focus (first | (simp; done) | (simp; omega) | omega))))) (by (repeat (first | (with_reducible assumption) | (with_reducible apply Blk.new'; (first | (with_reducible rfl) | (simp; done))) | with_reducible apply Blk.alloc | with_reducible apply Blk.set | ((with_reducible apply Blk.set_ne); focus (first | (simp; done) | (simp; omega))) | with_reducible apply Blk.drewN | with_reducible apply Blk.drew))) (by (repeat (first | (with_reducible assumption) | (with_reducible apply Blk.new'; (first | (with_reducible rfl) | (simp; done))) | with_reducible apply Blk.alloc | with_reducible apply Blk.set | ((with_reducible apply Blk.set_ne); focus (first | (simp; done) | (simp; omega))) | with_reducible apply Blk.drewN | with_reducible apply Blk.drew))) (fun W1 HB1 Q4 Q5 => ?_)
  have HB1s := HB1.size
  have Q5l := Q5.lt
  go_loopg [6] ch (fun k t6 wr => ∃ (j : Nat) (v : Value), t6 = .int .i64 j ∧ j + k = ch ∧ Blk wr w.heap.size z41 41 ∧ Blk wr (w.heap.size + 1) #[.int .i64 cw, .int .i64 ch, .int .i64 0, .int .i64 0, v] 41 ∧ wr.ownsRow W1.heap.size 9 1 v j (strs (List.replicate j bl)) ∧ Below w.heap.size w wr ∧ W1.heap.size ≤ wr.heap.size)
  case atStart => exact ⟨0, _, rfl, by omega, Q4, Q5, World.ownsRow_nil _ _ _ _, HB1, Nat.le_refl _⟩
  case round =>
    clear Q4 Q5
    obtain ⟨j, v, rfl, hj, Q4, Q5, ho, HB, hWr⟩ := hrel
    have HBs := HB.size
    have HJ := Lib.hid hj
    obtain ⟨a3, c3, h3⟩ := own_slice ho
    subst h3
    cases gk with
    | zero =>
      have hj' : ¬ (j : Int) < ch := by omega
      obtain rfl : j = ch := by omega
      clear hj
      have hcap : j ≤ c3 := by
        rcases ho.2 with ⟨_, h5⟩ | ⟨b, c', cur, h5, h6, h7, h8, _⟩
        · omega
        · simp only [Value.slice.injEq] at h5
          omega
      obtain ⟨g, c, hv, hg0, hgl, hgc⟩ := own_reads ho h1
      simp only [Value.slice.injEq, true_and] at hv
      obtain ⟨rfl, rfl⟩ := hv
      have hrow : RowAt wr g 0 (rowsL (txt (newS cw j).b) cw j) := ⟨hgl, fun i hi => by
        rw [rowsL_length] at hi
        rw [rowsL_get _ _ _ _ hi, new_rows cw j i hi, HBL.out, Nat.zero_add, hgc i (by omega)]
        simp [strs, hi]⟩
      have hne : g ≠ w.heap.size := by omega
      have Q4c := Q4.cell; have Q4f := Q4.frozen; have Q5c := Q5.cell; have Q4l := Q4.lt; have Q5l' := Q5.lt
      go_wp2_with fail
      refine bodyPost_ret (v := RV cw j 0 0 (.slice (some ⟨g, 0, none⟩) j c3)) ?_ rfl ⟨_, rfl, ⟨g, 0, c3, rfl, hcap, ((((hrow.set_ne hne _).set_ne hne _).set_ne hne _).set_ne hne _).set_ne hne _⟩, ?_⟩
      · first | (simp [results, Try.results19, go_sem, Q4c]; done) | simp [results, Try.results19, go_sem, Q4c, Q4l]
      · repeat (first | (with_reducible assumption) | (with_reducible exact Below.refl _ _) | with_reducible apply bl_drewN | with_reducible apply Below.drew | (with_reducible apply bl_alloc; focus (first | (simp; done) | (simp; omega) | omega)) | (with_reducible apply bl_set; focus (first | (simp; done) | (simp; omega) | omega)))
    | succ k =>
      have hj' : (j : Int) < ch := by omega
      have hj24 : j < 24 := by omega
      clear hj
      have Q5c := Q5.cell
      go_wp2_with fail
      refine wp_region_typed 5 (fun k => match k with  | _ => []) (fun k => match k with  | _ => false) (fun k => match k with | 3 => some ⟨(Unit), (()), (fun _ => .string bl), (fun _ _ => True), (fun _ _ _ h _ => h)⟩ | 4 => some ⟨(Nat), (0), (fun b => .slice (some ⟨b, 0, none⟩) 1 1), (fun b w => wr.heap.size ≤ b ∧ Blk w b #[.string bl] 9), (fun b w w' h hb => ⟨h.1, h.2.below hb⟩)⟩ | _ => none) (by kernel_rfl) (by kernel_rfl) (by intro d0 v0 c0 a0 w0 h0; cases d0 <;> exact h0) ?_
      rw [show List.range 5 = [0, 1, 2, 3, 4] from rfl]
      first
        | (refine ty_skip rfl rfl ?_; (try simp only [Act.put, List.setIfInBounds_toArray, List.set_cons_zero, List.set_cons_succ]))
        | (refine ty_pure rfl rfl rfl rfl ?_; apply Exists.intro; refine ⟨fun wq hq hk => ?_, ?_⟩
           · have f0 := hq.blk Q5; simp only [pureAt]; go_simp; (try simp only [↓IntWalk.iteOmega]); (try go_bits); (try simp only [pureUpon]); (first | done | exact ⟨rfl, rfl⟩ | exact ⟨trivial, rfl⟩ | rfl)
           (try simp only [Act.put, List.setIfInBounds_toArray, List.set_cons_zero, List.set_cons_succ]))
      first
        | (refine ty_skip rfl rfl ?_; (try simp only [Act.put, List.setIfInBounds_toArray, List.set_cons_zero, List.set_cons_succ]))
        | (refine ty_pure rfl rfl rfl rfl ?_; apply Exists.intro; refine ⟨fun wq hq hk => ?_, ?_⟩
           · have f0 := hq.blk Q5; simp only [pureAt]; go_simp; (try simp only [↓IntWalk.iteOmega]); (try go_bits); (try simp only [pureUpon]); (first | done | exact ⟨rfl, rfl⟩ | exact ⟨trivial, rfl⟩ | rfl)
           (try simp only [Act.put, List.setIfInBounds_toArray, List.set_cons_zero, List.set_cons_succ]))
      first
        | (refine ty_skip rfl rfl ?_; (try simp only [Act.put, List.setIfInBounds_toArray, List.set_cons_zero, List.set_cons_succ]))
        | (refine ty_pure rfl rfl rfl rfl ?_; apply Exists.intro; refine ⟨fun wq hq hk => ?_, ?_⟩
           · have f0 := hq.blk Q5; simp only [pureAt]; go_simp; (try simp only [↓IntWalk.iteOmega]); (try go_bits); (try simp only [pureUpon]); (first | done | exact ⟨rfl, rfl⟩ | exact ⟨trivial, rfl⟩ | rfl)
           (try simp only [Act.put, List.setIfInBounds_toArray, List.set_cons_zero, List.set_cons_succ]))
      refine ty_rel rfl rfl _ rfl rfl (fun wq hq hk => ?_) ?_
      · have f0 := hq.blk Q5; simp only [relAt]; go_simp; (try simp only [relUpon]); (go_at_call 36; refine (CB.out _).mono ?_; rintro e w9 ⟨rfl, hb9⟩; exact ⟨_, rfl, .mk hb9 () rfl trivial⟩)
      rintro ⟨⟩
      (try simp only [Act.put, List.setIfInBounds_toArray, List.set_cons_zero, List.set_cons_succ])
      refine ty_rel rfl rfl _ rfl rfl (fun wq hq hk => ?_) ?_
      · have f0 := hq.blk Q5; simp only [relAt]; go_simp; (try simp only [relUpon]); exact .mk ((Below.refl _ _).alloc (Nat.le_refl _) _) wq.heap.size rfl ⟨hq.size, Blk.new wq _ _⟩
      rintro (b36 : Nat)
      (try simp only [Act.put, List.setIfInBounds_toArray, List.set_cons_zero, List.set_cons_succ])
      refine ty_nil ?_
      simp only [List.drop_succ_cons, List.drop_zero]
      intro W8 hw8 hΓ
      have A36 : wr.heap.size ≤ b36 ∧ Blk W8 b36 #[.string bl] 9 := hΓ _ (.head _)
      have ho8 := own_below ho hw8.out
      have Q48 := Q4.below hw8.out
      have Q58 := Q5.below hw8.out
      have HB8 := Below.thn HB hw8.out HBs
      have HB8s := HB8.size
      have hW8 : W1.heap.size ≤ W8.heap.size := Nat.le_trans hWr hw8.out.size
      clear hΓ hw8 ho Q4 Q5 Q5c HB
      refine wpList_append_lies _ rfl _ _ 36 rfl W1.heap.size 9 i0 _ 1 16 Try.underlying36 hi0 hz0 hz1 hz2 rfl (by decide) _ j (strs (List.replicate j bl)) rfl ho8 ⟨b36, 0, none⟩ 1 1 [.string bl] rfl rfl ?c1 ?c2 (by decide) ?c3 ?c4 ?c5 W8.heap.size rfl ?_
      case c1 => exact World.news_of_block A36.2.out
      case c2 => simp [Value.oneCell']
      case c3 => unfold maxLen; omega
      case c4 => omega
      case c5 => exact hW8
      intro gg cc w' ho' hg hl hlt
      rw [strs_rep] at ho'
      have hown : ∀ q, (Value.slice a3 j c3).ownBlock = some q → W1.heap.size ≤ q := fun q hq => (ho8.lt q hq).1
      have Q4' := blk_grown Q48 hg (fun e => by have := hown _ e.symm; omega)
      have Q5' := blk_grown Q58 hg (fun e => by have := hown _ e.symm; omega)
      have hW' : W1.heap.size ≤ w'.heap.size := Nat.le_trans hW8 hg.size
      have HB' : Below w.heap.size w w' := HB8.grown hg HB8s (fun q hq => by have := hown q hq; omega)
      clear hg hl hown Q48 Q58 HB8 ho8 A36
      have Q5c := Q5'.cell; have Q5f := Q5'.frozen
      (try simp only [Act.put, List.setIfInBounds_toArray, List.set_cons_zero, List.set_cons_succ])
      go_wp2_with fail
      go_roundg k
      case rel => exact ⟨j + 1, _, by simp, by have := HJ.out; omega, Q4'.set_ne (by simp), Q5'.set.conv rfl, own_set_ne ho' (by show w.heap.size + 1 < _; omega), HB'.setCell (p := ⟨w.heap.size + 1, 4, none⟩) (by show w.heap.size ≤ w.heap.size + 1; omega) _, by simpa [World.setCell] using hW'⟩
      case measure => omega
end Go.Proofs.Ytgdmeaoghhkknaa
