/- Package wire: datagrams; Read. Package word: Cut of too short a text. -/
import Derived.Test.YtkblkdojmfgneaaWire1
namespace Go.Proofs.Ytkblkdojmfgneaa
open Go.RowKit
set_option maxHeartbeats 4000000 in
set_option maxRecDepth 20000 in
theorem cut_short (s : ByteArray) (ns : List Nat) (b : Nat) (t : TypeId) (w : World) (B : Blk w b (nums .i64 ns).toArray t) (hs : s.size ≤ 100000) (hf : s.size < ns.sum) (hn : ns.length ≤ 1000) :
    Calls Try.prog 76 #[.string s, .slice (some ⟨b, 0, none⟩) ns.length ns.length] w fun e w' => e = .returned (.tuple #[.slice none 0 0, .int .i64 3]) ∧ Below w.heap.size w w' := by
  obtain ⟨i0, hi0, hz0, hz1, hz2⟩ := info_parts info9
  obtain ⟨n, hnl⟩ : ∃ n, ns.length = n := ⟨_, rfl⟩
  have hget : ∀ i, i < n → (nums .i64 ns).toArray[i]? = some (.int .i64 (ns.getD i 0 : Nat)) := fun i hi => by
    rw [List.getElem?_toArray, nums_get _ _ _ (by omega)]
  have HG := Lib.hid hget; have HF := Lib.hid hf
  rw [hnl] at hn ⊢
  have HNL := Lib.hid hnl
  clear hget hf hnl
  go_enter Try.func76, Try.ntmps76
  go_wp2_with fail
  go_loopg [0, 6, 11] n (fun g t0 t6 t11 wr => ∃ (k : Nat) (c : ByteArray) (pre : List ByteArray), t11 = .int .i64 k ∧ t0 = .string c ∧ k + g = n ∧ pre.length = k ∧ c.size < (ns.drop k).sum ∧ c.size ≤ 100000 ∧ wr.ownsRow w.heap.size 9 1 t6 k (strs pre) ∧ Below w.heap.size w wr)
  case atStart => exact ⟨0, s, [], rfl, rfl, by omega, rfl, HF.out, hs, World.ownsRow_nil _ _ _ _, Below.refl _ _⟩
  case round =>
    obtain ⟨k, c, pre, rfl, rfl, hk, hpl, hsum, hcs, ho, HB⟩ := hrel
    have B1 := B.below HB
    have HBs := HB.size
    obtain ⟨a3, c3, h3⟩ := own_slice ho
    subst h3
    have HPL := Lib.hid hpl; have HSUM := Lib.hid hsum
    clear hpl hsum
    cases gk with
    | zero =>
      exfalso
      have hd : ns.drop k = [] := List.drop_eq_nil_of_le (by have := HNL.out; omega)
      have := HSUM.out
      rw [hd] at this
      simp at this
    | succ g =>
      have hk' : (k : Int) < n := by omega
      have hkl : k < n := by omega
      obtain ⟨m, hm⟩ : ∃ m, ns.getD k 0 = m := ⟨_, rfl⟩
      have hdrop : ns.drop k = m :: ns.drop (k + 1) := by
        have h6 : k < ns.length := by rw [HNL.out]; exact hkl
        rw [List.drop_eq_getElem_cons h6, ← hm, List.getD_eq_getElem?_getD, List.getElem?_eq_getElem h6]; rfl
      have hsum2 := HSUM.out
      rw [hdrop, List.sum_cons] at hsum2
      have hm0 : ¬ (m : Int) < 0 := by omega
      have hcell : wr.cell? ⟨b, k, none⟩ = some (.int .i64 m) := by rw [B1.cell, HG.out k hkl, hm]
      have hblt := B1.lt
      by_cases hmc : m ≤ c.size
      · have hmc : (m : Int) ≤ c.size := by omega
        have hmg : ¬ (c.size : Int) < m := by omega
        obtain ⟨c1, hc1⟩ : ∃ x, c.extract 0 m = x := ⟨_, rfl⟩
        obtain ⟨c2, hc2⟩ : ∃ x, c.extract m c.size = x := ⟨_, rfl⟩
        have hc2s : c2.size = c.size - m := by rw [← hc2, ByteArray.size_extract]; omega
        have hrow : strs (pre ++ [c1]) = strs pre ++ [.string c1] := strs_snoc _ _
        have hs2 : c2.size < (ns.drop (k + 1)).sum := by omega
        have hcs2 : c2.size ≤ 100000 := by omega
        have HR := Lib.hid hrow; have HS2 := Lib.hid hs2; have HCS2 := Lib.hid hcs2; have HKK := Lib.hid hk; have HPL2 := Lib.hid (show (pre ++ [c1]).length = k + 1 by rw [List.length_append, HPL.out]; rfl)
        clear hrow hs2 hcs2 hc2s hsum2 hdrop hm hk
        have o2 := ho.alloc (.cells #[.string c1] 9)
        go_wp2_with (at_builtin; refine wpList_append_lies _ rfl _ _ 117 rfl w.heap.size 9 i0 _ 1 16 Try.underlying117 hi0 hz0 hz1 hz2 rfl (by decide) _ _ _ rfl o2 ⟨wr.heap.size, 0, none⟩ 1 1 [.string c1] rfl rfl (World.news_of_block (heap_alloc_new wr _)) (by simp [Value.oneCell']) (by decide) ?c3 ?c4 ?c5 (wr.heap.size + 1) (by simp) ?_)
        case c3 => unfold maxLen; omega
        case c4 => omega
        case c5 => first | omega | (simp; omega)
        intro gg cc w' ho' hg hl hlt
        have hb : Below w.heap.size w w' := (HB.alloc HBs _).grown hg (by simp; omega) (fun q hq => (ho.lt q hq).1)
        clear o2 hg hl hlt
        rw [← HR.out] at ho'
        go_wp2_with fail
        go_roundg g
        case rel => exact ⟨k + 1, c2, pre ++ [c1], by simp, rfl, by have := HKK.out; omega, HPL2.out, HS2.out, HCS2.out, ho', hb⟩
        case measure => omega
      · have hmg : (c.size : Int) < m := by omega
        clear hmc hsum2 hdrop hm hk
        go_wp2_with fail
        go_ret2
        exact ⟨rfl, HB⟩
abbrev DC (id no : Nat) (se : ByteArray) : Array Value := #[.int .u64 (id : Int), .int .u64 (no : Int), .string se]
abbrev DV (id no : Nat) (se : ByteArray) : Value := .agg (DC id no se)
theorem headB_gram (id no : Nat) : headB id no = putS id 8 ++ putS no 8 := (ba_list (putB id 8) (putB no 8)).symm
set_option maxHeartbeats 4000000 in
set_option maxRecDepth 20000 in
theorem dbytes_ok (id no : Nat) (se : ByteArray) (h1 : id ≤ 18446744073709551615) (h2 : no ≤ 18446744073709551615) (h3 : 16 ≤ se.size) (h4 : se.size ≤ 496) (w : World) :
    Calls Try.prog 42 #[DV id no se] w fun e w' => e = .returned (.tuple #[.string (gramB id no se), .int .i64 0]) ∧ Below w.heap.size w w' := by
  have hsz := fun W => sized_any (16 + se.size) W
  rw [show szd (16 + se.size) = 0 by unfold szd; rw [if_neg (by omega), if_neg (by omega)], show ((16 + se.size : Nat) : Int) = 16 + (se.size : Int) by omega] at hsz
  have hh := fun W => head_any id no h1 h2 W
  rw [headB_gram] at hh
  unfold gramB
  obtain ⟨H, hH⟩ : ∃ x, putS id 8 ++ putS no 8 = x := ⟨_, rfl⟩
  have hHs : H.size = 16 := by rw [← hH, sz_app, putS_size, putS_size]
  rw [hH] at hh ⊢
  have a1 : ∀ W, (Op.stringOp .add H se).run Try.prog W = .ok (.string (H ++ se)) W := fun W => run_string_add_sum W _ _ (by omega)
  have SZ := Lib.hid hsz; have HH := Lib.hid hh
  clear hsz hh hH
  go_enter Try.func42, Try.ntmps42
  go_wp2_with fail
  refine (SZ.out _).mono ?_
  rintro e W1 ⟨rfl, hb⟩
  have HB1 : Below w.heap.size w W1 := Below.thn (by (repeat (first | (with_reducible assumption) | (with_reducible exact Below.refl _ _) | with_reducible apply bl_drewN | with_reducible apply Below.drew | (with_reducible apply bl_alloc; focus (first | (simp; done) | (simp; omega) | omega)) | (with_reducible apply bl_set; focus (first | (simp; done) | (simp; omega) | omega))))) hb
  have B1 : Blk W1 w.heap.size (DC id no se) 81 := Blk.below (Blk.new _ _ _) hb
  have B1c := B1.cell
  clear hb
  go_wp2_with fail
  refine wp_region_typed 8 (fun k => match k with | 7 => [4] | _ => []) (fun k => match k with  | _ => false) (fun k => match k with | 4 => some ⟨(Unit), (()), (fun _ => .string H), (fun _ _ => True), (fun _ _ _ h _ => h)⟩ | 7 => some ⟨(Unit), (()), (fun _ => .string (H ++ se)), (fun _ _ => True), (fun _ _ _ h _ => h)⟩ | _ => none) (by kernel_rfl) (by kernel_rfl) (by intro d0 v0 c0 a0 w0 h0; first | (cases d0 <;> exact h0) | exact hP _ _ _ _ _ h0) ?_
  rw [show List.range 8 = [0, 1, 2, 3, 4, 5, 6, 7] from rfl]
  first
    | (refine ty_skip rfl rfl ?_; (try simp only [Act.put, List.setIfInBounds_toArray, List.set_cons_zero, List.set_cons_succ]))
    | (refine ty_pure rfl rfl rfl rfl ?_; apply Exists.intro; refine ⟨fun wq hq hk => ?_, ?_⟩
       · have f0 := hq.blk B1; simp only [pureAt]; go_simp; (try simp only [↓IntWalk.iteOmega]); (try go_bits); (try simp only [pureUpon]); (first | done | exact ⟨rfl, rfl⟩ | exact ⟨trivial, rfl⟩ | rfl)
       (try simp only [Act.put, List.setIfInBounds_toArray, List.set_cons_zero, List.set_cons_succ]))
  first
    | (refine ty_skip rfl rfl ?_; (try simp only [Act.put, List.setIfInBounds_toArray, List.set_cons_zero, List.set_cons_succ]))
    | (refine ty_pure rfl rfl rfl rfl ?_; apply Exists.intro; refine ⟨fun wq hq hk => ?_, ?_⟩
       · have f0 := hq.blk B1; simp only [pureAt]; go_simp; (try simp only [↓IntWalk.iteOmega]); (try go_bits); (try simp only [pureUpon]); (first | done | exact ⟨rfl, rfl⟩ | exact ⟨trivial, rfl⟩ | rfl)
       (try simp only [Act.put, List.setIfInBounds_toArray, List.set_cons_zero, List.set_cons_succ]))
  first
    | (refine ty_skip rfl rfl ?_; (try simp only [Act.put, List.setIfInBounds_toArray, List.set_cons_zero, List.set_cons_succ]))
    | (refine ty_pure rfl rfl rfl rfl ?_; apply Exists.intro; refine ⟨fun wq hq hk => ?_, ?_⟩
       · have f0 := hq.blk B1; simp only [pureAt]; go_simp; (try simp only [↓IntWalk.iteOmega]); (try go_bits); (try simp only [pureUpon]); (first | done | exact ⟨rfl, rfl⟩ | exact ⟨trivial, rfl⟩ | rfl)
       (try simp only [Act.put, List.setIfInBounds_toArray, List.set_cons_zero, List.set_cons_succ]))
  first
    | (refine ty_skip rfl rfl ?_; (try simp only [Act.put, List.setIfInBounds_toArray, List.set_cons_zero, List.set_cons_succ]))
    | (refine ty_pure rfl rfl rfl rfl ?_; apply Exists.intro; refine ⟨fun wq hq hk => ?_, ?_⟩
       · have f0 := hq.blk B1; simp only [pureAt]; go_simp; (try simp only [↓IntWalk.iteOmega]); (try go_bits); (try simp only [pureUpon]); (first | done | exact ⟨rfl, rfl⟩ | exact ⟨trivial, rfl⟩ | rfl)
       (try simp only [Act.put, List.setIfInBounds_toArray, List.set_cons_zero, List.set_cons_succ]))
  refine ty_rel rfl rfl _ rfl rfl (fun wq hq hk => ?_) ?_
  · have f0 := hq.blk B1; simp only [relAt]; go_simp; (try simp only [relUpon]); (go_at_call 34; refine (HH.out _).mono ?_; rintro e w9 ⟨rfl, hb9⟩; exact ⟨_, rfl, .mk hb9 () rfl trivial⟩)
  rintro ⟨⟩
  (try simp only [Act.put, List.setIfInBounds_toArray, List.set_cons_zero, List.set_cons_succ])
  first
    | (refine ty_skip rfl rfl ?_; (try simp only [Act.put, List.setIfInBounds_toArray, List.set_cons_zero, List.set_cons_succ]))
    | (refine ty_pure rfl rfl rfl rfl ?_; apply Exists.intro; refine ⟨fun wq hq hk => ?_, ?_⟩
       · have f0 := hq.blk B1; simp only [pureAt]; go_simp; (try simp only [↓IntWalk.iteOmega]); (try go_bits); (try simp only [pureUpon]); (first | done | exact ⟨rfl, rfl⟩ | exact ⟨trivial, rfl⟩ | rfl)
       (try simp only [Act.put, List.setIfInBounds_toArray, List.set_cons_zero, List.set_cons_succ]))
  first
    | (refine ty_skip rfl rfl ?_; (try simp only [Act.put, List.setIfInBounds_toArray, List.set_cons_zero, List.set_cons_succ]))
    | (refine ty_pure rfl rfl rfl rfl ?_; apply Exists.intro; refine ⟨fun wq hq hk => ?_, ?_⟩
       · have f0 := hq.blk B1; simp only [pureAt]; go_simp; (try simp only [↓IntWalk.iteOmega]); (try go_bits); (try simp only [pureUpon]); (first | done | exact ⟨rfl, rfl⟩ | exact ⟨trivial, rfl⟩ | rfl)
       (try simp only [Act.put, List.setIfInBounds_toArray, List.set_cons_zero, List.set_cons_succ]))
  refine ty_rel rfl rfl _ rfl rfl (fun wq hq hk => ?_) ?_
  · have f0 := hq.blk B1; have ra := a1 wq; simp only [relAt]; go_simp; (try simp only [relUpon]); exact .mk (Below.refl _ _) () rfl trivial
  rintro ⟨⟩
  (try simp only [Act.put, List.setIfInBounds_toArray, List.set_cons_zero, List.set_cons_succ])
  refine ty_nil ?_
  simp only [List.drop_succ_cons, List.drop_zero]
  intro W8 hw8 hΓ
  have HB8 := Below.thn HB1 hw8.out HB1.size
  clear hΓ hw8
  go_wp2_with fail
  go_ret2
  exact ⟨rfl, HB8⟩
set_option maxHeartbeats 4000000 in
theorem dbytes_bad (id no e : Nat) (se : ByteArray) (he : szd (16 + se.size) = e + 1) (hs : se.size ≤ 100000) (w : World) :
    Calls Try.prog 42 #[DV id no se] w fun z w' => z = .returned (.tuple #[.string ⟨#[]⟩, .int .i64 ((e + 1 : Nat) : Int)]) ∧ Below w.heap.size w w' := by
  have hsz := fun W => sized_any (16 + se.size) W
  rw [he, show ((16 + se.size : Nat) : Int) = 16 + (se.size : Int) by omega] at hsz
  obtain ⟨z, hz⟩ : ∃ z : Nat, e + 1 = z := ⟨_, rfl⟩
  rw [hz] at hsz ⊢
  have h0 : ¬ (z : Int) = 0 := by omega
  have SZ := Lib.hid hsz
  clear hsz hz he
  go_enter Try.func42, Try.ntmps42
  go_wp2_with fail
  refine (SZ.out _).mono ?_
  rintro e W1 ⟨rfl, hb⟩
  have HB1 : Below w.heap.size w W1 := Below.thn (by (repeat (first | (with_reducible assumption) | (with_reducible exact Below.refl _ _) | with_reducible apply bl_drewN | with_reducible apply Below.drew | (with_reducible apply bl_alloc; focus (first | (simp; done) | (simp; omega) | omega)) | (with_reducible apply bl_set; focus (first | (simp; done) | (simp; omega) | omega))))) hb
  clear hb
  go_wp2_with fail
  go_ret2
  exact ⟨rfl, HB1⟩
theorem cut_88 (s : ByteArray) (h : 16 ≤ s.size) : cutL s [8, 8] = [s.extract 0 8, s.extract 8 16, gSe s] := by
  have h1 : (s.extract 8 s.size).size = s.size - 8 := by rw [sz_ext]; omega
  show [s.extract 0 8, (s.extract 8 s.size).extract 0 8, (s.extract 8 s.size).extract 8 (s.extract 8 s.size).size] = _
  rw [h1, ext_ext s 8 0 8 (by omega), ext_ext s 8 8 (s.size - 8) (by omega), show 8 + (s.size - 8) = s.size by omega]
  rfl
structure SRow (W : World) (g : Nat) (L : List ByteArray) : Prop where
  lt : g < W.heap.size
  cell : ∀ j, j < L.length → W.cell? ⟨g, j, none⟩ = (strs L)[j]?
theorem SRow.below {W W' : World} {g : Nat} {L : List ByteArray} (h : SRow W g L) (hb : Below W.heap.size W W') : SRow W' g L :=
  ⟨Nat.lt_of_lt_of_le h.lt hb.size, fun j hj => (World.cell?_of_block (a := ⟨g, j, none⟩) (hb.block g h.lt)).trans (h.cell j hj)⟩
theorem SRow.drew {W : World} {g : Nat} {L : List ByteArray} (h : SRow W g L) : SRow W.drew g L := ⟨h.lt, h.cell⟩
set_option maxHeartbeats 4000000 in
set_option maxRecDepth 20000 in
theorem parse_ok (s : ByteArray) (h1 : 32 ≤ s.size) (h2 : s.size ≤ 512) (w : World) :
    Calls Try.prog 44 #[.string s] w fun e w' => e = .returned (.tuple #[DV (gId s) (gNo s) (gSe s), .int .i64 0]) ∧ Below w.heap.size w w' := by
  have hsz := fun W => sized_any s.size W
  rw [show szd s.size = 0 by unfold szd; rw [if_neg (by omega), if_neg (by omega)]] at hsz
  have hcut := cut_88 s (by omega)
  have b0 := gId_lt s (by omega); have b1 := gNo_lt s (by omega)
  have e0 : getJ (s.extract 0 8) (s.extract 0 8).size = gId s := rfl
  have e1 : getJ (s.extract 8 16) (s.extract 8 16).size = gNo s := rfl
  have z0 : (s.extract 0 8).size = 8 := by rw [sz_ext]; omega
  have z1 : (s.extract 8 16).size = 8 := by rw [sz_ext]; omega
  obtain ⟨A, hA⟩ : ∃ x, s.extract 0 8 = x := ⟨_, rfl⟩
  obtain ⟨B, hB⟩ : ∃ x, s.extract 8 16 = x := ⟨_, rfl⟩
  obtain ⟨C, hC⟩ : ∃ x, gSe s = x := ⟨_, rfl⟩
  obtain ⟨i, hi⟩ : ∃ x, gId s = x := ⟨_, rfl⟩
  obtain ⟨n, hn⟩ : ∃ x, gNo s = x := ⟨_, rfl⟩
  rw [hi] at e0 b0 ⊢; rw [hn] at e1 b1 ⊢; rw [hA] at e0 z0 hcut; rw [hB] at e1 z1 hcut; rw [hC] at hcut ⊢
  have SZ := Lib.hid hsz; have CUT := Lib.hid hcut; have E0 := Lib.hid e0; have E1 := Lib.hid e1
  clear hsz hcut e0 e1 hA hB hC hi hn
  go_enter Try.func44, Try.ntmps44
  go_wp2_with fail
  refine (SZ.out _).mono ?_
  rintro e W1 ⟨rfl, hb⟩
  have HB1 : Below w.heap.size w W1 := Below.thn (by (repeat (first | (with_reducible assumption) | (with_reducible exact Below.refl _ _) | with_reducible apply bl_drewN | with_reducible apply Below.drew | (with_reducible apply bl_alloc; focus (first | (simp; done) | (simp; omega) | omega)) | (with_reducible apply bl_set; focus (first | (simp; done) | (simp; omega) | omega))))) hb
  have HB1s := HB1.size
  have B1 : Blk W1 w.heap.size (DC 0 0 ⟨#[]⟩) 81 := Blk.below (Blk.new _ _ _) hb
  clear hb
  go_wp2_with fail
  refine (cut_any s [8, 8] W1.heap.size 3 _ ((Blk.new' rfl).conv rfl) (by omega) (by simp; omega) (by decide)).mono ?_
  rintro e W2 ⟨v, rfl, ho, hb⟩
  have HB2 : Below w.heap.size w W2 := Below.thn (by (repeat (first | (with_reducible assumption) | (with_reducible exact Below.refl _ _) | with_reducible apply bl_drewN | with_reducible apply Below.drew | (with_reducible apply bl_alloc; focus (first | (simp; done) | (simp; omega) | omega)) | (with_reducible apply bl_set; focus (first | (simp; done) | (simp; omega) | omega))))) hb
  have B2 := (Blk.alloc B1).below hb
  obtain ⟨g, c, rfl, hg0, hgl, C2⟩ := own_reads ho (by decide)
  rw [CUT.out] at C2
  have R2 : SRow W2 g [A, B, C] := ⟨hgl, C2⟩
  clear hb ho HB1 HB1s B1 hg0 hgl C2
  have l0 : W2.cell? ⟨g, 0, none⟩ = some (.string A) := R2.cell 0 (by simp); have l1 : W2.cell? ⟨g, 1, none⟩ = some (.string B) := R2.cell 1 (by simp); have l2 : W2.cell? ⟨g, 2, none⟩ = some (.string C) := R2.cell 2 (by simp)
  have hgl := R2.lt
  go_wp2_with fail
  refine (get_any A _ (by omega) (by omega)).mono ?_
  rintro e W3 ⟨rfl, hb⟩
  rw [show getJ A (A).size = i from E0.out]
  have HB3 := Below.thn HB2 hb HB2.size
  have B3 := B2.below hb
  have R3 := R2.below hb
  clear hb HB2 B2 R2
  clear l0 l1 l2 hgl
  have l0 : W3.cell? ⟨g, 0, none⟩ = some (.string A) := R3.cell 0 (by simp); have l1 : W3.cell? ⟨g, 1, none⟩ = some (.string B) := R3.cell 1 (by simp); have l2 : W3.cell? ⟨g, 2, none⟩ = some (.string C) := R3.cell 2 (by simp)
  have hgl := R3.lt
  go_wp2_with fail
  refine (get_any B _ (by omega) (by omega)).mono ?_
  rintro e W4 ⟨rfl, hb⟩
  rw [show getJ B (B).size = n from E1.out]
  have HB4 := Below.thn HB3 hb HB3.size
  have B4 := B3.below hb
  have R4 := R3.below hb
  clear hb HB3 B3 R3
  clear l0 l1 l2 hgl
  have l0 : W4.cell? ⟨g, 0, none⟩ = some (.string A) := R4.cell 0 (by simp); have l1 : W4.cell? ⟨g, 1, none⟩ = some (.string B) := R4.cell 1 (by simp); have l2 : W4.cell? ⟨g, 2, none⟩ = some (.string C) := R4.cell 2 (by simp)
  have hgl := R4.lt
  have B4c := B4.cell; have B4f := B4.frozen; have B4l := B4.lt
  go_wp2_with fail
  refine bodyPost_ret (v := .tuple #[DV i n C, .int .i64 0]) ?_ rfl ⟨rfl, ?_⟩
  · first | (simp [results, Try.results44, go_sem, B4c]; done) | simp [results, Try.results44, go_sem, B4c, B4l]
  · repeat (first | (with_reducible assumption) | (with_reducible exact Below.refl _ _) | with_reducible apply bl_drewN | with_reducible apply Below.drew | (with_reducible apply bl_alloc; focus (first | (simp; done) | (simp; omega) | omega)) | (with_reducible apply bl_set; focus (first | (simp; done) | (simp; omega) | omega)))
set_option maxHeartbeats 4000000 in
set_option maxRecDepth 20000 in
theorem parse_bad (s : ByteArray) (e : Nat) (he : szd s.size = e + 1) (w : World) :
    Calls Try.prog 44 #[.string s] w fun z w' => z = .returned (.tuple #[DV 0 0 ⟨#[]⟩, .int .i64 ((e + 1 : Nat) : Int)]) ∧ Below w.heap.size w w' := by
  have hsz := fun W => sized_any s.size W
  rw [he] at hsz
  obtain ⟨z, hz⟩ : ∃ z : Nat, e + 1 = z := ⟨_, rfl⟩
  rw [hz] at hsz ⊢
  have h0 : ¬ (z : Int) = 0 := by omega
  have SZ := Lib.hid hsz
  clear hsz hz he
  go_enter Try.func44, Try.ntmps44
  go_wp2_with fail
  refine (SZ.out _).mono ?_
  rintro e W1 ⟨rfl, hb⟩
  have HB1 : Below w.heap.size w W1 := Below.thn (by (repeat (first | (with_reducible assumption) | (with_reducible exact Below.refl _ _) | with_reducible apply bl_drewN | with_reducible apply Below.drew | (with_reducible apply bl_alloc; focus (first | (simp; done) | (simp; omega) | omega)) | (with_reducible apply bl_set; focus (first | (simp; done) | (simp; omega) | omega))))) hb
  have HB1s := HB1.size
  have B1 : Blk W1 w.heap.size (DC 0 0 ⟨#[]⟩) 81 := Blk.below (Blk.new _ _ _) hb
  have B1c := B1.cell; have B1f := B1.frozen; have B1l := B1.lt
  clear hb
  go_wp2_with fail
  refine bodyPost_ret (v := .tuple #[DV 0 0 ⟨#[]⟩, .int .i64 (z : Int)]) ?_ rfl ⟨rfl, ?_⟩
  · first | (simp [results, Try.results44, go_sem, B1c]; done) | simp [results, Try.results44, go_sem, B1c, B1l]
  · repeat (first | (with_reducible assumption) | (with_reducible exact Below.refl _ _) | with_reducible apply bl_drewN | with_reducible apply Below.drew | (with_reducible apply bl_alloc; focus (first | (simp; done) | (simp; omega) | omega)) | (with_reducible apply bl_set; focus (first | (simp; done) | (simp; omega) | omega)))
theorem cut_2282 (s : ByteArray) (h : 14 ≤ s.size) : cutL s [2, 2, 8, 2] = [s.extract 0 2, s.extract 2 4, s.extract 4 12, s.extract 12 14, rTx s] := by
  have k : ∀ i, i ≤ s.size → (s.extract i s.size).size = s.size - i := fun i hi => by rw [sz_ext]; omega
  have c : ∀ i n r, i + n ≤ s.size → cutL (s.extract i s.size) (n :: r) = s.extract i (i + n) :: cutL (s.extract (i + n) s.size) r := fun i n r hi => by
    rw [cutL, k i (by omega), ext_ext s i 0 n (by omega), ext_ext s i n (s.size - i) (by omega), show i + (s.size - i) = s.size by omega]
    rfl
  have e := c 0 2 [2, 8, 2] (by omega)
  rw [ByteArray.extract_zero_size] at e
  rw [e, c 2 2 _ (by omega), c 4 8 _ (by omega), c 12 2 _ (by omega)]
  rfl
theorem andNot_last (n : Nat) (h : n < 65536) : bits .andNot .u64 (n : Int) 32768 = ((n % 32768 : Nat) : Int) := by
  have e0 : (BitVec.ofInt 64 (n : Int)).toNat = n := by simp; omega
  have e1 : (~~~(BitVec.ofInt 64 32768)).toNat = 18446744073709518847 := by decide
  show IntKind.u64.wrap ((BitVec.ofInt 64 (n : Int) &&& ~~~(BitVec.ofInt 64 32768)).toNat : Int) = _
  rw [BitVec.toNat_and, e0, e1, IntKind.wrap_u64]
  have e2 : n &&& 65535 = n := by
    have := Nat.and_two_pow_sub_one_eq_mod n 16
    rw [show (2 ^ 16 - 1 : Nat) = 65535 from rfl] at this
    rw [this]; omega
  have e3 : n &&& 18446744073709518847 = n % 32768 := by
    have h1 : (n &&& 65535) &&& 18446744073709518847 = n &&& 32767 := by rw [Nat.and_assoc]; rfl
    rw [e2] at h1
    rw [h1]
    exact Nat.and_two_pow_sub_one_eq_mod n 15
  rw [e3]
  omega
/-- What is read of a text; the error. -/
def rErr (s : ByteArray) : Nat := if s.size < 14 then 3 else chk ((rIx s : Nat) : Int) (rTx s)
def rdV (s : ByteArray) : Value := if rErr s = 0 then PV (rSt s) (rRp s) (rNb s) ((rIx s : Nat) : Int) (rLa s) (rTx s) else PV 0 0 0 0 false ⟨#[]⟩
set_option maxHeartbeats 4000000 in
set_option maxRecDepth 20000 in
theorem read_short (s : ByteArray) (h : s.size < 14) (w : World) :
    Calls Try.prog 40 #[.string s] w fun z w' => z = .returned (.tuple #[PV 0 0 0 0 false ⟨#[]⟩, .int .i64 3]) ∧ Below w.heap.size w w' := by
  go_enter Try.func40, Try.ntmps40
  go_wp2_with fail
  refine (cut_short s [2, 2, 8, 2] (w.heap.size + 1) 3 _ ((Blk.new' (by simp)).conv rfl) (by omega) (by simp; omega) (by decide)).mono ?_
  rintro e W1 ⟨rfl, hb⟩
  have HB1 : Below w.heap.size w W1 := Below.thn (by (repeat (first | (with_reducible assumption) | (with_reducible exact Below.refl _ _) | with_reducible apply bl_drewN | with_reducible apply Below.drew | (with_reducible apply bl_alloc; focus (first | (simp; done) | (simp; omega) | omega)) | (with_reducible apply bl_set; focus (first | (simp; done) | (simp; omega) | omega))))) hb
  have B1 : Blk W1 w.heap.size (PC 0 0 0 0 false ⟨#[]⟩) 70 := (Blk.alloc (Blk.new _ _ _)).below hb
  have B1c := B1.cell; have B1f := B1.frozen; have B1l := B1.lt
  clear hb
  go_wp2_with fail
  refine bodyPost_ret (v := .tuple #[PV 0 0 0 0 false ⟨#[]⟩, .int .i64 3]) ?_ rfl ⟨rfl, ?_⟩
  · first | (simp [results, Try.results40, go_sem, B1c]; done) | simp [results, Try.results40, go_sem, B1c, B1l]
  · repeat (first | (with_reducible assumption) | (with_reducible exact Below.refl _ _) | with_reducible apply bl_drewN | with_reducible apply Below.drew | (with_reducible apply bl_alloc; focus (first | (simp; done) | (simp; omega) | omega)) | (with_reducible apply bl_set; focus (first | (simp; done) | (simp; omega) | omega)))
set_option maxHeartbeats 8000000 in
set_option maxRecDepth 20000 in
theorem read_any (s : ByteArray) (h : 14 ≤ s.size) (hs : s.size ≤ 10000) (w : World) :
    Calls Try.prog 40 #[.string s] w fun z w' => z = .returned (.tuple #[rdV s, .int .i64 (rErr s : Nat)]) ∧ Below w.heap.size w w' := by
  unfold rdV
  have her : rErr s = chk ((rIx s : Nat) : Int) (rTx s) := by unfold rErr; rw [if_neg (by omega)]
  have hcut := cut_2282 s (by omega)
  have b0 := rSt_lt s (by omega); have b1 := rRp_lt s (by omega); have b2 := rNb_lt s (by omega); have b3 := rN_lt s (by omega)
  have e0 : getJ (s.extract 0 2) (s.extract 0 2).size = rSt s := rfl
  have e1 : getJ (s.extract 2 4) (s.extract 2 4).size = rRp s := rfl
  have e2 : getJ (s.extract 4 12) (s.extract 4 12).size = rNb s := rfl
  have e3 : getJ (s.extract 12 14) (s.extract 12 14).size = rN s := rfl
  have z0 : (s.extract 0 2).size = 2 := by rw [sz_ext]; omega
  have z1 : (s.extract 2 4).size = 2 := by rw [sz_ext]; omega
  have z2 : (s.extract 4 12).size = 8 := by rw [sz_ext]; omega
  have z3 : (s.extract 12 14).size = 2 := by rw [sz_ext]; omega
  have hck := fun W => check_any (rSt s) (rRp s) (rNb s) ((rIx s : Nat) : Int) (rLa s) (rTx s) W
  have hix : rIx s = rN s % 32768 := rfl
  have hla : rLa s = decide (32768 ≤ rN s) := rfl
  rw [← her] at hck
  clear her
  obtain ⟨z, hz⟩ : ∃ z, rErr s = z := ⟨_, rfl⟩
  rw [hz] at hck ⊢
  obtain ⟨A0, hA0⟩ : ∃ x, s.extract 0 2 = x := ⟨_, rfl⟩
  obtain ⟨A1, hA1⟩ : ∃ x, s.extract 2 4 = x := ⟨_, rfl⟩
  obtain ⟨A2, hA2⟩ : ∃ x, s.extract 4 12 = x := ⟨_, rfl⟩
  obtain ⟨A3, hA3⟩ : ∃ x, s.extract 12 14 = x := ⟨_, rfl⟩
  obtain ⟨T, hT⟩ : ∃ x, rTx s = x := ⟨_, rfl⟩
  obtain ⟨st, hst⟩ : ∃ x, rSt s = x := ⟨_, rfl⟩
  obtain ⟨rp, hrp⟩ : ∃ x, rRp s = x := ⟨_, rfl⟩
  obtain ⟨nb, hnb⟩ : ∃ x, rNb s = x := ⟨_, rfl⟩
  obtain ⟨n, hn⟩ : ∃ x, rN s = x := ⟨_, rfl⟩
  obtain ⟨ix, hixx⟩ : ∃ x, rIx s = x := ⟨_, rfl⟩
  obtain ⟨la, hlaa⟩ : ∃ x, rLa s = x := ⟨_, rfl⟩
  rw [hst] at e0 b0 hck ⊢; rw [hrp] at e1 b1 hck ⊢; rw [hnb] at e2 b2 hck ⊢; rw [hn] at e3 b3 hix hla; rw [hixx] at hix hck ⊢; rw [hlaa] at hla hck ⊢
  rw [hT] at hcut hck ⊢; rw [hA0] at e0 z0 hcut; rw [hA1] at e1 z1 hcut; rw [hA2] at e2 z2 hcut; rw [hA3] at e3 z3 hcut
  have hm : bits .andNot .u64 (n : Int) 32768 = (ix : Int) := by rw [hix]; exact andNot_last n b3
  have hixl : ix < 32768 := by omega
  have hl := and_last n b3
  have CUT := Lib.hid hcut; have E0 := Lib.hid e0; have E1 := Lib.hid e1; have E2 := Lib.hid e2; have E3 := Lib.hid e3; have CK := Lib.hid hck
  clear hcut e0 e1 e2 e3 hck hA0 hA1 hA2 hA3 hT hst hrp hnb hn hixx hlaa hix hz
  obtain ⟨RV, hRV⟩ : ∃ v, (if z = 0 then PV st rp nb (ix : Int) la T else PV 0 0 0 0 false ⟨#[]⟩) = v := ⟨_, rfl⟩
  have hr0 : z = 0 → RV = PV st rp nb (ix : Int) la T := fun h => by rw [← hRV, if_pos h]
  have hr1 : ¬ z = 0 → RV = PV 0 0 0 0 false ⟨#[]⟩ := fun h => by rw [← hRV, if_neg h]
  rw [hRV]
  have HR0 := Lib.hid hr0; have HR1 := Lib.hid hr1
  clear hr0 hr1 hRV
  by_cases hc : n < 32768
  · rw [if_pos hc] at hl
    obtain rfl : la = false := by rw [hla]; simpa using hc
    clear hla hc
    go_enter Try.func40, Try.ntmps40
    go_wp2_with fail
    refine (cut_any s [2, 2, 8, 2] (w.heap.size + 1) 3 _ ((Blk.new' (by simp)).conv rfl) (by omega) (by simp; omega) (by decide)).mono ?_
    rintro e W2 ⟨v, rfl, ho, hb⟩
    have HB2 : Below w.heap.size w W2 := Below.thn (by (repeat (first | (with_reducible assumption) | (with_reducible exact Below.refl _ _) | with_reducible apply bl_drewN | with_reducible apply Below.drew | (with_reducible apply bl_alloc; focus (first | (simp; done) | (simp; omega) | omega)) | (with_reducible apply bl_set; focus (first | (simp; done) | (simp; omega) | omega))))) hb
    have B2 : Blk W2 w.heap.size (PC 0 0 0 0 false ⟨#[]⟩) 70 := (Blk.alloc (Blk.new _ _ _)).below hb
    obtain ⟨g, c, rfl, hg0, hgl, C2⟩ := own_reads ho (by decide)
    rw [CUT.out] at C2
    have R2 : SRow W2 g [A0, A1, A2, A3, T] := ⟨hgl, C2⟩
    clear hb ho hg0 hgl C2
    have l0 : W2.cell? ⟨g, 0, none⟩ = some (.string A0) := R2.cell 0 (by simp)
    have l1 : W2.cell? ⟨g, 1, none⟩ = some (.string A1) := R2.cell 1 (by simp)
    have l2 : W2.cell? ⟨g, 2, none⟩ = some (.string A2) := R2.cell 2 (by simp)
    have l3 : W2.cell? ⟨g, 3, none⟩ = some (.string A3) := R2.cell 3 (by simp)
    have l4 : W2.cell? ⟨g, 4, none⟩ = some (.string T) := R2.cell 4 (by simp)
    have hgl := R2.lt
    go_wp2_with fail
    refine (get_any A0 _ (by omega) (by omega)).mono ?_
    rintro e W3 ⟨rfl, hb⟩
    rw [show getJ A0 (A0).size = st from E0.out]
    have HB3 := Below.thn HB2 hb HB2.size
    have B3 := B2.below hb
    have R3 := R2.below hb
    clear hb HB2 B2 R2
    clear l0 l1 l2 l3 l4 hgl
    have l0 : W3.cell? ⟨g, 0, none⟩ = some (.string A0) := R3.cell 0 (by simp)
    have l1 : W3.cell? ⟨g, 1, none⟩ = some (.string A1) := R3.cell 1 (by simp)
    have l2 : W3.cell? ⟨g, 2, none⟩ = some (.string A2) := R3.cell 2 (by simp)
    have l3 : W3.cell? ⟨g, 3, none⟩ = some (.string A3) := R3.cell 3 (by simp)
    have l4 : W3.cell? ⟨g, 4, none⟩ = some (.string T) := R3.cell 4 (by simp)
    have hgl := R3.lt
    go_wp2_with fail
    refine (get_any A1 _ (by omega) (by omega)).mono ?_
    rintro e W4 ⟨rfl, hb⟩
    rw [show getJ A1 (A1).size = rp from E1.out]
    have HB4 := Below.thn HB3 hb HB3.size
    have B4 := B3.below hb
    have R4 := R3.below hb
    clear hb HB3 B3 R3
    clear l0 l1 l2 l3 l4 hgl
    have l0 : W4.cell? ⟨g, 0, none⟩ = some (.string A0) := R4.cell 0 (by simp)
    have l1 : W4.cell? ⟨g, 1, none⟩ = some (.string A1) := R4.cell 1 (by simp)
    have l2 : W4.cell? ⟨g, 2, none⟩ = some (.string A2) := R4.cell 2 (by simp)
    have l3 : W4.cell? ⟨g, 3, none⟩ = some (.string A3) := R4.cell 3 (by simp)
    have l4 : W4.cell? ⟨g, 4, none⟩ = some (.string T) := R4.cell 4 (by simp)
    have hgl := R4.lt
    go_wp2_with fail
    refine (get_any A2 _ (by omega) (by omega)).mono ?_
    rintro e W5 ⟨rfl, hb⟩
    rw [show getJ A2 (A2).size = nb from E2.out]
    have HB5 := Below.thn HB4 hb HB4.size
    have B5 := B4.below hb
    have R5 := R4.below hb
    clear hb HB4 B4 R4
    clear l0 l1 l2 l3 l4 hgl
    have l0 : W5.cell? ⟨g, 0, none⟩ = some (.string A0) := R5.cell 0 (by simp)
    have l1 : W5.cell? ⟨g, 1, none⟩ = some (.string A1) := R5.cell 1 (by simp)
    have l2 : W5.cell? ⟨g, 2, none⟩ = some (.string A2) := R5.cell 2 (by simp)
    have l3 : W5.cell? ⟨g, 3, none⟩ = some (.string A3) := R5.cell 3 (by simp)
    have l4 : W5.cell? ⟨g, 4, none⟩ = some (.string T) := R5.cell 4 (by simp)
    have hgl := R5.lt
    go_wp2_with fail
    refine (get_any A3 _ (by omega) (by omega)).mono ?_
    rintro e W6 ⟨rfl, hb⟩
    rw [show getJ A3 (A3).size = n from E3.out]
    have HB6 := Below.thn HB5 hb HB5.size
    have B6 := B5.below hb
    have R6 := R5.below hb
    clear hb HB5 B5 R5
    clear l0 l1 l2 l3 l4 hgl
    have l0 : W6.cell? ⟨g, 0, none⟩ = some (.string A0) := R6.cell 0 (by simp)
    have l1 : W6.cell? ⟨g, 1, none⟩ = some (.string A1) := R6.cell 1 (by simp)
    have l2 : W6.cell? ⟨g, 2, none⟩ = some (.string A2) := R6.cell 2 (by simp)
    have l3 : W6.cell? ⟨g, 3, none⟩ = some (.string A3) := R6.cell 3 (by simp)
    have l4 : W6.cell? ⟨g, 4, none⟩ = some (.string T) := R6.cell 4 (by simp)
    have hgl := R6.lt
    have B6l := B6.lt; have HB6s := HB6.size
    go_wp2_with fail
    refine (CK.out _).mono ?_
    rintro e W7 ⟨rfl, hb⟩
    have HB7 : Below w.heap.size w W7 := Below.thn (by (repeat (first | (with_reducible assumption) | (with_reducible exact Below.refl _ _) | with_reducible apply bl_drewN | with_reducible apply Below.drew | (with_reducible apply bl_alloc; focus (first | (simp; done) | (simp; omega) | omega)) | (with_reducible apply bl_set; focus (first | (simp; done) | (simp; omega) | omega))))) hb
    have B7 : Blk W7 w.heap.size (PC 0 0 0 0 false ⟨#[]⟩) 70 := Blk.below (by (repeat (first | (with_reducible assumption) | (with_reducible apply Blk.new'; (first | (with_reducible rfl) | (simp; done))) | with_reducible apply Blk.alloc | with_reducible apply Blk.set | ((with_reducible apply Blk.set_ne); focus (first | (simp; done) | (simp; omega))) | with_reducible apply Blk.drewN | with_reducible apply Blk.drew))) hb
    have D7 : Blk W7 W6.heap.size (PC st rp nb (ix : Int) false T) 70 := Blk.below (by (repeat (first | (with_reducible assumption) | (with_reducible apply Blk.new'; (first | (with_reducible rfl) | (simp; done))) | with_reducible apply Blk.alloc | with_reducible apply Blk.set | ((with_reducible apply Blk.set_ne); focus (first | (simp; done) | (simp; omega))) | with_reducible apply Blk.drewN | with_reducible apply Blk.drew))) hb
    clear l0 l1 l2 l3 l4 hgl
    have B7c := B7.cell; have B7f := B7.frozen; have B7l := B7.lt
    have D7c := D7.cell; have D7l := D7.lt
    clear hb HB6 B6 R6
    by_cases hz0 : z = 0
    · obtain rfl := HR0.out hz0
      subst hz0
      go_wp2_with fail
      refine bodyPost_ret (v := .tuple #[PV st rp nb (ix : Int) false T, .int .i64 0]) ?_ rfl ⟨rfl, ?_⟩
      · first | (simp [results, Try.results40, go_sem, B7c]; done) | simp [results, Try.results40, go_sem, B7c, B7l]
      · repeat (first | (with_reducible assumption) | (with_reducible exact Below.refl _ _) | with_reducible apply bl_drewN | with_reducible apply Below.drew | (with_reducible apply bl_alloc; focus (first | (simp; done) | (simp; omega) | omega)) | (with_reducible apply bl_set; focus (first | (simp; done) | (simp; omega) | omega)))
    · have hzi : ¬ (z : Int) = 0 := by omega
      obtain rfl := HR1.out hz0
      clear hz0
      go_wp2_with fail
      refine bodyPost_ret (v := .tuple #[PV 0 0 0 0 false ⟨#[]⟩, .int .i64 (z : Int)]) ?_ rfl ⟨rfl, ?_⟩
      · first | (simp [results, Try.results40, go_sem, B7c]; done) | simp [results, Try.results40, go_sem, B7c, B7l]
      · repeat (first | (with_reducible assumption) | (with_reducible exact Below.refl _ _) | with_reducible apply bl_drewN | with_reducible apply Below.drew | (with_reducible apply bl_alloc; focus (first | (simp; done) | (simp; omega) | omega)) | (with_reducible apply bl_set; focus (first | (simp; done) | (simp; omega) | omega)))
  · rw [if_neg hc] at hl
    obtain rfl : la = true := by rw [hla]; simpa using (by omega : 32768 ≤ n)
    clear hla hc
    go_enter Try.func40, Try.ntmps40
    go_wp2_with fail
    refine (cut_any s [2, 2, 8, 2] (w.heap.size + 1) 3 _ ((Blk.new' (by simp)).conv rfl) (by omega) (by simp; omega) (by decide)).mono ?_
    rintro e W2 ⟨v, rfl, ho, hb⟩
    have HB2 : Below w.heap.size w W2 := Below.thn (by (repeat (first | (with_reducible assumption) | (with_reducible exact Below.refl _ _) | with_reducible apply bl_drewN | with_reducible apply Below.drew | (with_reducible apply bl_alloc; focus (first | (simp; done) | (simp; omega) | omega)) | (with_reducible apply bl_set; focus (first | (simp; done) | (simp; omega) | omega))))) hb
    have B2 : Blk W2 w.heap.size (PC 0 0 0 0 false ⟨#[]⟩) 70 := (Blk.alloc (Blk.new _ _ _)).below hb
    obtain ⟨g, c, rfl, hg0, hgl, C2⟩ := own_reads ho (by decide)
    rw [CUT.out] at C2
    have R2 : SRow W2 g [A0, A1, A2, A3, T] := ⟨hgl, C2⟩
    clear hb ho hg0 hgl C2
    have l0 : W2.cell? ⟨g, 0, none⟩ = some (.string A0) := R2.cell 0 (by simp)
    have l1 : W2.cell? ⟨g, 1, none⟩ = some (.string A1) := R2.cell 1 (by simp)
    have l2 : W2.cell? ⟨g, 2, none⟩ = some (.string A2) := R2.cell 2 (by simp)
    have l3 : W2.cell? ⟨g, 3, none⟩ = some (.string A3) := R2.cell 3 (by simp)
    have l4 : W2.cell? ⟨g, 4, none⟩ = some (.string T) := R2.cell 4 (by simp)
    have hgl := R2.lt
    go_wp2_with fail
    refine (get_any A0 _ (by omega) (by omega)).mono ?_
    rintro e W3 ⟨rfl, hb⟩
    rw [show getJ A0 (A0).size = st from E0.out]
    have HB3 := Below.thn HB2 hb HB2.size
    have B3 := B2.below hb
    have R3 := R2.below hb
    clear hb HB2 B2 R2
    clear l0 l1 l2 l3 l4 hgl
    have l0 : W3.cell? ⟨g, 0, none⟩ = some (.string A0) := R3.cell 0 (by simp)
    have l1 : W3.cell? ⟨g, 1, none⟩ = some (.string A1) := R3.cell 1 (by simp)
    have l2 : W3.cell? ⟨g, 2, none⟩ = some (.string A2) := R3.cell 2 (by simp)
    have l3 : W3.cell? ⟨g, 3, none⟩ = some (.string A3) := R3.cell 3 (by simp)
    have l4 : W3.cell? ⟨g, 4, none⟩ = some (.string T) := R3.cell 4 (by simp)
    have hgl := R3.lt
    go_wp2_with fail
    refine (get_any A1 _ (by omega) (by omega)).mono ?_
    rintro e W4 ⟨rfl, hb⟩
    rw [show getJ A1 (A1).size = rp from E1.out]
    have HB4 := Below.thn HB3 hb HB3.size
    have B4 := B3.below hb
    have R4 := R3.below hb
    clear hb HB3 B3 R3
    clear l0 l1 l2 l3 l4 hgl
    have l0 : W4.cell? ⟨g, 0, none⟩ = some (.string A0) := R4.cell 0 (by simp)
    have l1 : W4.cell? ⟨g, 1, none⟩ = some (.string A1) := R4.cell 1 (by simp)
    have l2 : W4.cell? ⟨g, 2, none⟩ = some (.string A2) := R4.cell 2 (by simp)
    have l3 : W4.cell? ⟨g, 3, none⟩ = some (.string A3) := R4.cell 3 (by simp)
    have l4 : W4.cell? ⟨g, 4, none⟩ = some (.string T) := R4.cell 4 (by simp)
    have hgl := R4.lt
    go_wp2_with fail
    refine (get_any A2 _ (by omega) (by omega)).mono ?_
    rintro e W5 ⟨rfl, hb⟩
    rw [show getJ A2 (A2).size = nb from E2.out]
    have HB5 := Below.thn HB4 hb HB4.size
    have B5 := B4.below hb
    have R5 := R4.below hb
    clear hb HB4 B4 R4
    clear l0 l1 l2 l3 l4 hgl
    have l0 : W5.cell? ⟨g, 0, none⟩ = some (.string A0) := R5.cell 0 (by simp)
    have l1 : W5.cell? ⟨g, 1, none⟩ = some (.string A1) := R5.cell 1 (by simp)
    have l2 : W5.cell? ⟨g, 2, none⟩ = some (.string A2) := R5.cell 2 (by simp)
    have l3 : W5.cell? ⟨g, 3, none⟩ = some (.string A3) := R5.cell 3 (by simp)
    have l4 : W5.cell? ⟨g, 4, none⟩ = some (.string T) := R5.cell 4 (by simp)
    have hgl := R5.lt
    go_wp2_with fail
    refine (get_any A3 _ (by omega) (by omega)).mono ?_
    rintro e W6 ⟨rfl, hb⟩
    rw [show getJ A3 (A3).size = n from E3.out]
    have HB6 := Below.thn HB5 hb HB5.size
    have B6 := B5.below hb
    have R6 := R5.below hb
    clear hb HB5 B5 R5
    clear l0 l1 l2 l3 l4 hgl
    have l0 : W6.cell? ⟨g, 0, none⟩ = some (.string A0) := R6.cell 0 (by simp)
    have l1 : W6.cell? ⟨g, 1, none⟩ = some (.string A1) := R6.cell 1 (by simp)
    have l2 : W6.cell? ⟨g, 2, none⟩ = some (.string A2) := R6.cell 2 (by simp)
    have l3 : W6.cell? ⟨g, 3, none⟩ = some (.string A3) := R6.cell 3 (by simp)
    have l4 : W6.cell? ⟨g, 4, none⟩ = some (.string T) := R6.cell 4 (by simp)
    have hgl := R6.lt
    have B6l := B6.lt; have HB6s := HB6.size
    go_wp2_with fail
    refine (CK.out _).mono ?_
    rintro e W7 ⟨rfl, hb⟩
    have HB7 : Below w.heap.size w W7 := Below.thn (by (repeat (first | (with_reducible assumption) | (with_reducible exact Below.refl _ _) | with_reducible apply bl_drewN | with_reducible apply Below.drew | (with_reducible apply bl_alloc; focus (first | (simp; done) | (simp; omega) | omega)) | (with_reducible apply bl_set; focus (first | (simp; done) | (simp; omega) | omega))))) hb
    have B7 : Blk W7 w.heap.size (PC 0 0 0 0 false ⟨#[]⟩) 70 := Blk.below (by (repeat (first | (with_reducible assumption) | (with_reducible apply Blk.new'; (first | (with_reducible rfl) | (simp; done))) | with_reducible apply Blk.alloc | with_reducible apply Blk.set | ((with_reducible apply Blk.set_ne); focus (first | (simp; done) | (simp; omega))) | with_reducible apply Blk.drewN | with_reducible apply Blk.drew))) hb
    have D7 : Blk W7 W6.heap.size (PC st rp nb (ix : Int) true T) 70 := Blk.below (by (repeat (first | (with_reducible assumption) | (with_reducible apply Blk.new'; (first | (with_reducible rfl) | (simp; done))) | with_reducible apply Blk.alloc | with_reducible apply Blk.set | ((with_reducible apply Blk.set_ne); focus (first | (simp; done) | (simp; omega))) | with_reducible apply Blk.drewN | with_reducible apply Blk.drew))) hb
    clear l0 l1 l2 l3 l4 hgl
    have B7c := B7.cell; have B7f := B7.frozen; have B7l := B7.lt
    have D7c := D7.cell; have D7l := D7.lt
    clear hb HB6 B6 R6
    by_cases hz0 : z = 0
    · obtain rfl := HR0.out hz0
      subst hz0
      go_wp2_with fail
      refine bodyPost_ret (v := .tuple #[PV st rp nb (ix : Int) true T, .int .i64 0]) ?_ rfl ⟨rfl, ?_⟩
      · first | (simp [results, Try.results40, go_sem, B7c]; done) | simp [results, Try.results40, go_sem, B7c, B7l]
      · repeat (first | (with_reducible assumption) | (with_reducible exact Below.refl _ _) | with_reducible apply bl_drewN | with_reducible apply Below.drew | (with_reducible apply bl_alloc; focus (first | (simp; done) | (simp; omega) | omega)) | (with_reducible apply bl_set; focus (first | (simp; done) | (simp; omega) | omega)))
    · have hzi : ¬ (z : Int) = 0 := by omega
      obtain rfl := HR1.out hz0
      clear hz0
      go_wp2_with fail
      refine bodyPost_ret (v := .tuple #[PV 0 0 0 0 false ⟨#[]⟩, .int .i64 (z : Int)]) ?_ rfl ⟨rfl, ?_⟩
      · first | (simp [results, Try.results40, go_sem, B7c]; done) | simp [results, Try.results40, go_sem, B7c, B7l]
      · repeat (first | (with_reducible assumption) | (with_reducible exact Below.refl _ _) | with_reducible apply bl_drewN | with_reducible apply Below.drew | (with_reducible apply bl_alloc; focus (first | (simp; done) | (simp; omega) | omega)) | (with_reducible apply bl_set; focus (first | (simp; done) | (simp; omega) | omega)))
end Go.Proofs.Ytkblkdojmfgneaa
