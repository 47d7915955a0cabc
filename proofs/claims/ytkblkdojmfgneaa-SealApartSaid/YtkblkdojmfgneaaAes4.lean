/- Package aes: New. -/
import Derived.Test.YtkblkdojmfgneaaAesK
import Derived.Test.YtkblkdojmfgneaaTyp2
namespace Go.Proofs.Ytkblkdojmfgneaa
open Go.RowKit

/-- Memory, in a round. -/
structure NAt (w wx : World) (b bl : Nat) (ws : List UInt8) (LA : Array Value) : Prop where
  HB : Below w.heap.size w wx
  Z : Blk wx w.heap.size Try.zeroCells29 29
  B : Blk wx b (kcells ws).toArray 29
  BL : Blk wx bl LA 25
  hb : w.heap.size < b
  hl : b < bl
theorem NAt.gr {w wx wy : World} {b bl : Nat} {ws : List UInt8} {LA : Array Value} (h : NAt w wx b bl ws LA) (g : Gr wx wy) : NAt w wy b bl ws LA :=
  ⟨Below.thn h.HB g.out h.HB.size, h.Z.gr g, h.B.gr g, h.BL.gr g, h.hb, h.hl⟩
theorem NAt.set {w wx : World} {b bl : Nat} {ws : List UInt8} {LA : Array Value} (h : NAt w wx b bl ws LA) (o : Nat) (c : UInt8) (ho : o < ws.length) : NAt w (wx.setCell ⟨b, 1 + o, none⟩ (bval c)) b bl (ws.set o c) LA :=
  have h1 := h.hb
  have h2 := h.hl
  ⟨h.HB.setCell (p := ⟨b, 1 + o, none⟩) (by show w.heap.size ≤ b; omega) _, h.Z.set_ne (by show w.heap.size ≠ b; omega), by rw [← kcells_set ws o c ho]; exact h.B.set, h.BL.set_ne (by show bl ≠ b; omega), h.hb, h.hl⟩
set_option maxHeartbeats 8000000 in
set_option maxRecDepth 20000 in
theorem new_any (key : ByteArray) (w : World) (hk : key.size = 16) : Calls Try.prog 15 #[.string key] w fun e w' => e = .returned (.tuple #[.agg (kcells (keysN key.data.toList 10)).toArray, .int .i64 0]) ∧ Below w.heap.size w w' := by
  have hki : (key.size : Int) = 16 := by omega
  go_enter Try.func15, Try.ntmps15
  go_wp2_with fail
  refine (box_any _).mono ?_
  rintro e W1 ⟨rfl, hb⟩
  have hbs : (boxL.map bval).toArray.size = 256 := by rw [List.size_toArray, List.length_map, boxL_len]
  have hbk := build_key
  obtain ⟨BX, hBX⟩ : ∃ B, (boxL.map bval).toArray = B := ⟨_, rfl⟩
  rw [hBX] at hbs hbk
  rw [hBX]
  have HB1 : Below w.heap.size w W1 := Below.thn (by (repeat (first | (with_reducible assumption) | (with_reducible exact Below.refl _ _) | with_reducible apply bl_drewN | with_reducible apply Below.drew | (with_reducible apply bl_alloc; focus (first | (simp; done) | (simp; omega) | omega)) | (with_reducible apply bl_set; focus (first | (simp; done) | (simp; omega) | omega))))) hb
  have HB1s := HB1.size
  have Z1 : Blk W1 w.heap.size Try.zeroCells29 29 := Blk.below (by (repeat (first | (with_reducible assumption) | (with_reducible apply Blk.new'; (first | (with_reducible rfl) | (simp; done))) | with_reducible apply Blk.alloc | with_reducible apply Blk.set | ((with_reducible apply Blk.set_ne); focus (first | (simp; done) | (simp; omega))) | with_reducible apply Blk.drewN | with_reducible apply Blk.drew))) hb
  clear hb
  have hks : (kcells (List.replicate 176 0)).toArray.size = 433 := by rw [List.size_toArray, kcells_len _ (by simp)]
  have hone := kcells_one (List.replicate 176 0)
  obtain ⟨K0, hK0⟩ : ∃ K, (kcells (List.replicate 176 0)).toArray = K := ⟨_, rfl⟩
  rw [hK0, hbs] at hbk
  rw [hK0] at hks hone
  go_upto_region 4 with (refine wpList_put rfl 29 _ _ rfl W1.heap.size _ _ 29 rfl rfl (by (repeat (first | (with_reducible assumption) | (with_reducible apply Blk.new'; (first | (with_reducible rfl) | (simp; done))) | with_reducible apply Blk.alloc | with_reducible apply Blk.set | ((with_reducible apply Blk.set_ne); focus (first | (simp; done) | (simp; omega))) | with_reducible apply Blk.drewN | with_reducible apply Blk.drew))) (by rw [hks]; kernel_rfl) (hks.trans (by kernel_rfl)) hone (fun W2 hp2 B2 => ?_))
  rw [← hK0] at B2
  have HB2 : Below w.heap.size w W2 := hp2.below (by omega) (by (repeat (first | (with_reducible assumption) | (with_reducible exact Below.refl _ _) | with_reducible apply bl_drewN | with_reducible apply Below.drew | (with_reducible apply bl_alloc; focus (first | (simp; done) | (simp; omega) | omega)) | (with_reducible apply bl_set; focus (first | (simp; done) | (simp; omega) | omega)))))
  have hz1 := Z1.lt
  have Z2 : Blk W2 w.heap.size Try.zeroCells29 29 := hp2.blk (by omega) (Blk.alloc Z1)
  clear hp2 hK0 hbk hone hks Z1 HB1
  obtain ⟨b, hb⟩ : ∃ b, W1.heap.size = b := ⟨_, rfl⟩
  rw [hb] at B2 HB1s hz1 ⊢
  clear hb
  have hkl : key.data.toList.length = key.size := rfl
  have hcs := run_copy_string (P := Try.prog) W2 36 9 3 5 b 1 16 16 key Try.underlying36 Try.sizeOf5 (by omega)
    (fun j hj => by rw [B2.cell, kcells_get _ j (by simp; omega)]; rfl)
    (fun j _ => B2.frozen _)
  have hmap : (key.data.toList.map fun c => Value.int .u8 (c.toNat : Int)) = key.data.toList.map bval := rfl
  rw [hmap] at hcs
  have hkl2 : (key.data.toList.map bval).length = 16 := by rw [List.length_map, hkl, hk]
  have B3 := setCells_blk2 b 29 (key.data.toList.map bval) 1 W2 _ B2 (by rw [hkl2, kcells_len _ (by simp)]; omega)
  obtain ⟨h1, h2, h3, h4, h5⟩ := setCells_os b (key.data.toList.map bval) 1 W2
  have hp3 : Put b W2 (W2.setCells b 1 (key.data.toList.map bval)) := ⟨h1, h2, h3, h4, h5⟩
  have Z3 := hp3.blk (q := w.heap.size) (by omega) Z2
  have HB3 := hp3.below (by omega) HB2
  obtain ⟨W3, hW3⟩ : ∃ W3, W2.setCells b 1 (key.data.toList.map bval) = W3 := ⟨_, rfl⟩
  rw [hW3] at hcs B3 Z3 HB3
  clear hp3 h1 h2 h3 h4 h5 hW3 hmap B2 Z2 HB2
  obtain ⟨KEY, hKEY⟩ : ∃ K, key.data.toList = K := ⟨_, rfl⟩
  have hKl : KEY.length = 16 := by rw [← hKEY, hkl, hk]
  have hks3 : ((kcells (List.replicate 176 0)).take 1 ++ key.data.toList.map bval ++ (kcells (List.replicate 176 0)).drop (1 + (key.data.toList.map bval).length)).toArray = (kcells (KEY ++ List.replicate 160 0)).toArray := by
    have := kcells_put (List.replicate 176 0) KEY 0 (by rw [hKl]; simp)
    rw [Nat.add_zero, Nat.zero_add, List.take_zero, List.nil_append, hKl, List.drop_replicate] at this
    rw [hKEY, this]
  have KW0 : KW KEY (KEY ++ List.replicate 160 0) 0 0 := ⟨by simp [hKl], by rw [Nat.add_zero, List.take_append_of_le_length (by omega), List.take_of_length_le (by omega)]; simp [keysN]⟩
  rw [hks3] at B3
  have hbw : w.heap.size < b := by have := Z3.lt; omega
  have HKE := Lib.hid hKEY; have HKL := Lib.hid hKl
  clear hks3 hKEY hkl hkl2 hki hbs hKl
  go_wp2_with fail
  go_loopg [5, 6] 10 (fun gk t5 t6 wr => ∃ (r r1 : Nat) (ws : List UInt8), r1 = r + 1 ∧ r + gk = 10 ∧ t5 = .int .u8 (((turnL r).toNat : Nat) : Int) ∧ t6 = .int .i64 (r1 : Int) ∧ Below w.heap.size w wr ∧ Blk wr w.heap.size Try.zeroCells29 29 ∧ Blk wr b (kcells ws).toArray 29 ∧ KW KEY ws r 0)
  case atStart => exact ⟨0, 1, _, rfl, rfl, rfl, rfl, HB3, Z3, B3, KW0⟩
  case round =>
    clear HB3 Z3 B3 KW0 hcs
    obtain ⟨r, r1, ws, hr1, hrg, rfl, rfl, HB, Z, B, KWr⟩ := hrel
    cases gk with
    | zero =>
      obtain rfl : r = 10 := by omega
      subst hr1
      clear hrg
      have hall : (kcells ws).toArray = (kcells (keysN KEY 10)).toArray := by rw [KWr.all]
      rw [hall] at B
      have hlen := keysN_len KEY HKL.out 10
      have hks := by have := kcells_len (keysN KEY 10) hlen; exact this
      have hone := kcells_one (keysN KEY 10)
      obtain ⟨KF, hKF⟩ : ∃ K, (kcells (keysN KEY 10)).toArray = K := ⟨_, rfl⟩
      have hKs : KF.size = 433 := by rw [← hKF, List.size_toArray, hks]
      rw [hKF] at B hone
      have HKF := Lib.hid hKF
      have hzs : Try.zeroCells29.size = 433 := by kernel_rfl
      clear hall hlen hks hKF KWr
      have hx11 : ¬ (((10 + 1 : Nat)) : Int) ≤ 10 := by omega
      go_wp2_with (first | (refine wpList_load_row rfl 29 _ rfl b rfl 29 _ (0, 0) _ B.out Try.underlying29 rfl (by rw [hKs]; kernel_rfl) ?_) | (refine wpList_put rfl 29 _ _ rfl w.heap.size _ _ 29 rfl rfl Z (by rw [hKs]; kernel_rfl) (hKs.trans hzs.symm) hone (fun W9 hp9 B9 => ?_)))
      all_goals
        first
        | (refine bodyPost_ret (v := .tuple #[.agg KF, .int .i64 0]) ?_ rfl ⟨by rw [← HKF.out, ← HKE.out], hp9.below (Nat.le_refl _) HB⟩; exact results_cell_tmp (Try.results15) _ _ w.heap.size 29 _ (0, 0) _ _ rfl rfl B9.out Try.underlying29 rfl (by rw [hKs]; kernel_rfl))
        | skip
    | succ g =>
      have hr10 : (r1 : Int) ≤ 10 := by omega
      have hrm : (r1 : Int) - 1 = (r : Int) := by omega
      have hrlt : (r : Int) < 11 := by omega
      have hr1lt : (r1 : Int) < 11 := by omega
      obtain ⟨LV, hLV⟩ : ∃ L, ((keyR KEY r).map bval) = L := ⟨_, rfl⟩
      have hLVl : LV.length = 16 := by rw [← hLV, List.length_map, keyR_len KEY HKL.out]
      have hrange : ∀ wq, Blk wq b (kcells ws).toArray 29 → wq.rangeAt b (1 + r * 16) LV := fun wq Bq j v hv => by
        have hj : j < 16 := by have := (List.getElem?_eq_some_iff.1 hv).1; omega
        rw [Bq.cell, Nat.add_assoc, kcells_get ws _ (by rw [KWr.len]; omega), Nat.mul_comm r 16, KWr.old HKL.out (Nat.le_refl _) hj, ← hv, ← hLV, List.getElem?_map, List.getD_eq_getElem?_getD, List.getElem?_eq_getElem (by rw [keyR_len KEY HKL.out]; exact hj)]; rfl
      have HRA := Lib.hid hrange; have HR1 := Lib.hid hr1; have HRG := Lib.hid hrg; have HLV := Lib.hid hLV; have HLVL := Lib.hid hLVl
      clear hrange hr1 hrg hLV hLVl
      go_wp2_with fail
      refine wp_region_typed 9 (fun k => match k with  | _ => []) (fun k => match k with | 5 => true | 6 => true | 7 => true | _ => false) (fun k => match k with | 4 => some ⟨(Unit), (()), (fun _ => .agg LV.toArray), (fun _ _ => True), (fun _ _ _ h _ => h)⟩ | 8 => some ⟨(Nat), (0), (fun b => .pointer (some ⟨b, 0, none⟩)), (fun b2 w => wr.heap.size ≤ b2 ∧ Blk w b2 z16 25), (fun b w w' h hb => ⟨h.1, h.2.below hb⟩)⟩ | _ => none) (by kernel_rfl) (by kernel_rfl) (by intro d0 v0 c0 a0 w0 h0; first | (cases d0 <;> exact h0) | exact hP _ _ _ _ _ h0) ?_
      rw [show List.range 9 = [0, 1, 2, 3, 4, 5, 6, 7, 8] from rfl]
      first
        | (refine ty_skip rfl rfl ?_; (try simp only [Act.put, List.setIfInBounds_toArray, List.set_cons_zero, List.set_cons_succ]))
        | (refine ty_pure rfl rfl rfl rfl ?_; apply Exists.intro; refine ⟨fun wq hq hk => ?_, ?_⟩
           · simp only [pureAt]; go_simp; (try simp only [↓IntWalk.iteOmega]); (try go_bits); (try simp only [pureUpon]); (first | done | exact ⟨rfl, rfl⟩ | exact ⟨trivial, rfl⟩ | rfl)
           (try simp only [Act.put, List.setIfInBounds_toArray, List.set_cons_zero, List.set_cons_succ]))
      first
        | (refine ty_skip rfl rfl ?_; (try simp only [Act.put, List.setIfInBounds_toArray, List.set_cons_zero, List.set_cons_succ]))
        | (refine ty_pure rfl rfl rfl rfl ?_; apply Exists.intro; refine ⟨fun wq hq hk => ?_, ?_⟩
           · simp only [pureAt]; go_simp; (try simp only [↓IntWalk.iteOmega]); (try go_bits); (try simp only [pureUpon]); (first | done | exact ⟨rfl, rfl⟩ | exact ⟨trivial, rfl⟩ | rfl)
           (try simp only [Act.put, List.setIfInBounds_toArray, List.set_cons_zero, List.set_cons_succ]))
      first
        | (refine ty_skip rfl rfl ?_; (try simp only [Act.put, List.setIfInBounds_toArray, List.set_cons_zero, List.set_cons_succ]))
        | (refine ty_pure rfl rfl rfl rfl ?_; apply Exists.intro; refine ⟨fun wq hq hk => ?_, ?_⟩
           · simp only [pureAt]; go_simp; (try simp only [↓IntWalk.iteOmega]); (try go_bits); (try simp only [pureUpon]); (first | done | exact ⟨rfl, rfl⟩ | exact ⟨trivial, rfl⟩ | rfl)
           (try simp only [Act.put, List.setIfInBounds_toArray, List.set_cons_zero, List.set_cons_succ]))
      first
        | (refine ty_skip rfl rfl ?_; (try simp only [Act.put, List.setIfInBounds_toArray, List.set_cons_zero, List.set_cons_succ]))
        | (refine ty_pure rfl rfl rfl rfl ?_; apply Exists.intro; refine ⟨fun wq hq hk => ?_, ?_⟩
           · simp only [pureAt]; go_simp; (try simp only [↓IntWalk.iteOmega]); (try go_bits); (try simp only [pureUpon]); (first | done | exact ⟨rfl, rfl⟩ | exact ⟨trivial, rfl⟩ | rfl)
           (try simp only [Act.put, List.setIfInBounds_toArray, List.set_cons_zero, List.set_cons_succ]))
      refine ty_rel rfl rfl _ rfl rfl (fun wq hq hk => ?_) ?_
      · exact rel_load_mid _ _ rfl b (1 + r * 16) rfl LV _ (HRA.out wq (B.gr hq)) Try.underlying25 rfl (by rw [HLVL.out]; kernel_rfl) (.mk (Below.refl _ _) () rfl trivial)
      rintro ⟨⟩
      (try simp only [Act.put, List.setIfInBounds_toArray, List.set_cons_zero, List.set_cons_succ])
      first
        | (refine ty_skip rfl rfl ?_; (try simp only [Act.put, List.setIfInBounds_toArray, List.set_cons_zero, List.set_cons_succ]))
        | (refine ty_late rfl rfl rfl ?_; apply Exists.intro; refine ⟨fun wq => ?_, ?_⟩
           · simp only [pureAt]; go_simp; (try simp only [↓IntWalk.iteOmega]); (try go_bits); (try simp only [pureUpon]); (first | done | exact ⟨rfl, rfl⟩ | exact ⟨trivial, rfl⟩ | rfl)
           (try simp only [Act.put, List.setIfInBounds_toArray, List.set_cons_zero, List.set_cons_succ]))
      first
        | (refine ty_skip rfl rfl ?_; (try simp only [Act.put, List.setIfInBounds_toArray, List.set_cons_zero, List.set_cons_succ]))
        | (refine ty_late rfl rfl rfl ?_; apply Exists.intro; refine ⟨fun wq => ?_, ?_⟩
           · simp only [pureAt]; go_simp; (try simp only [↓IntWalk.iteOmega]); (try go_bits); (try simp only [pureUpon]); (first | done | exact ⟨rfl, rfl⟩ | exact ⟨trivial, rfl⟩ | rfl)
           (try simp only [Act.put, List.setIfInBounds_toArray, List.set_cons_zero, List.set_cons_succ]))
      first
        | (refine ty_skip rfl rfl ?_; (try simp only [Act.put, List.setIfInBounds_toArray, List.set_cons_zero, List.set_cons_succ]))
        | (refine ty_late rfl rfl rfl ?_; apply Exists.intro; refine ⟨fun wq => ?_, ?_⟩
           · simp only [pureAt]; go_simp; (try simp only [↓IntWalk.iteOmega]); (try go_bits); (try simp only [pureUpon]); (first | done | exact ⟨rfl, rfl⟩ | exact ⟨trivial, rfl⟩ | rfl)
           (try simp only [Act.put, List.setIfInBounds_toArray, List.set_cons_zero, List.set_cons_succ]))
      refine ty_rel rfl rfl _ rfl rfl (fun wq hq hk => ?_) ?_
      · simp only [relAt]; go_simp; (try simp only [relUpon]); exact .mk ((Below.refl _ _).alloc (Nat.le_refl _) _) wq.heap.size rfl ⟨hq.size, Blk.new wq _ _⟩
      rintro (bl : Nat)
      (try simp only [Act.put, List.setIfInBounds_toArray, List.set_cons_zero, List.set_cons_succ])
      refine ty_nil ?_
      simp only [List.drop_succ_cons, List.drop_zero]
      intro W8 hw8 hΓ
      obtain ⟨hbl, BL8⟩ := hΓ _ (.head _)
      have HBs := HB.size
      have HB8 := Below.thn HB hw8.out HBs
      have Z8 := Z.gr hw8
      have B8 := B.gr hw8
      have hblt := B.lt
      have hone16 : LV.toArray.all (·.oneCell') = true := all_oneCell_toArray (fun v hv => by
        rw [← HLV.out] at hv
        obtain ⟨n, _, rfl⟩ := List.mem_map.1 hv; rfl)
      have hsz16 : LV.toArray.size = 16 := by rw [List.size_toArray, HLVL.out]
      refine wpList_put rfl 25 _ _ rfl bl _ _ 25 rfl rfl BL8 (by rw [hsz16]; kernel_rfl) hsz16 hone16 (fun W9 hp9 BL9 => ?_)
      (try simp only [Act.put])
      have N0 : NAt w W9 b bl ws LV.toArray := ⟨hp9.below (by omega) HB8, hp9.blk (by omega) Z8, hp9.blk (by omega) B8, BL9, by omega, by omega⟩
      obtain ⟨p, hp⟩ : ∃ p, 1 + r1 * 16 = p := ⟨_, rfl⟩
      have HP := Lib.hid hp
      rw [hp]
      obtain ⟨T, hTT⟩ : ∃ x, turnL r = x := ⟨_, rfl⟩
      have HTT := Lib.hid hTT
      rw [hTT]
      clear hΓ HB HB8 Z Z8 B B8 BL8 BL9 hp9 hw8 hone16 hsz16 hp hTT
      go_wp2_with fail
      go_loopg [33] 16 (fun g2 t33 wx => ∃ (i : Nat) (ws' : List UInt8), i + g2 = 16 ∧ t33 = .int .i64 (i : Int) ∧ NAt w wx b bl ws' LV.toArray ∧ KW KEY ws' r i)
      case atStart => exact ⟨0, ws, rfl, rfl, N0, KWr⟩
      case round =>
        clear N0 KWr
        obtain ⟨i, ws, hi, rfl, N, KWi⟩ := hrel
        cases gk with
        | zero =>
          obtain rfl : i = 16 := by omega
          have KWn := KWi.next HKL.out
          have ht : turnL (r + 1) = timesL (turnL r) 2 := rfl
          have hts := fun W => times_any (turnL r) 2 W
          rw [← ht, show (((2 : UInt8).toNat : Nat) : Int) = 2 from rfl] at hts
          obtain ⟨T2, hT2⟩ : ∃ T, turnL (r + 1) = T := ⟨_, rfl⟩
          rw [hT2, HTT.out] at hts
          have HTS := Lib.hid hts; have HT2 := Lib.hid hT2
          clear ht hts hT2 hi KWi
          go_wp2_with fail
          refine (HTS.out _).mono ?_
          rintro e W10 ⟨rfl, hb⟩
          have N10 : NAt w W10 b bl ws LV.toArray := N.gr ⟨hb⟩
          clear N hb
          go_wp2_with fail
          go_roundg g
          case rel => exact ⟨r + 1, r1 + 1, ws, by rw [HR1.out], by have := HRG.out; omega, by rw [HT2.out], by simp, N10.HB, N10.Z, N10.B, KWn⟩
          case measure => omega
        | succ g2 =>
          have hi16 : (i : Int) < 16 := by omega
          have hi16n : i < 16 := by omega
          have hr10n : r < 10 := by have := HRG.out; omega
          have hwsl := KWi.len
          obtain ⟨L, hL⟩ : ∃ L, keyR KEY r = L := ⟨_, rfl⟩
          have hLl : L.length = 16 := by rw [← hL]; exact keyR_len KEY HKL.out r
          have hLV : LV = L.map bval := by rw [← HLV.out, hL]
          have hlast : ∀ j, j < 16 → wr.cell? ⟨bl, j, none⟩ = some (.int .u8 (((L.getD j 0).toNat : Nat) : Int)) := fun j hj => by
            rw [N.BL.cell, hLV]; exact bytes_get L j (by omega)
          have hbox : ∀ y : UInt8, wr.cell? ⟨b, 177 + y.toNat, none⟩ = some (.int .u8 (((subL y).toNat : Nat) : Int)) := fun y => by
            rw [N.B.cell]; exact kcells_box ws _ hwsl y.toNat_lt
          obtain ⟨o, ho⟩ : ∃ o, 16 * (r + 1) + i = o := ⟨_, rfl⟩
          have hpo : p + i = 1 + o := by rw [← HP.out, HR1.out, ← ho, Nat.mul_comm (r + 1) 16]; omega
          have hol : o < ws.length := by omega
          have hkn : keyR KEY (r + 1) = nextK L (turnL r) := by rw [← hL]; rfl
          have KWs := KWi.set HKL.out hi16n hr10n
          have hcs := nextK_get L (turnL r) i hi16n
          rw [← hkn, HTT.out] at hcs
          obtain ⟨v, hv⟩ : ∃ v, (keyR KEY (r + 1)).getD i 0 = v := ⟨_, rfl⟩
          rw [ho, hv] at KWs
          rw [hv] at hcs
          have Ns := fun (W : World) (NW : NAt w W b bl ws LV.toArray) => NW.set o v hol
          rw [← hpo] at Ns
          have htgt : ∀ W, NAt w W b bl ws LV.toArray → W.cell? ⟨b, p + i, none⟩ = some (bval (ws.getD o 0)) ∧ W.frozen? ⟨b, p + i, none⟩ = false := fun W NW => ⟨by rw [hpo, NW.B.cell]; exact kcells_get ws o hol, NW.B.frozen _⟩
          have hnow : ∀ j, j < i → wr.cell? ⟨b, p + j, none⟩ = some (.int .u8 ((((keyR KEY (r + 1)).getD j 0).toNat : Nat) : Int)) := fun j hj => by
            have e : p + j = 1 + (16 * (r + 1) + j) := by rw [← HP.out, HR1.out, Nat.mul_comm (r + 1) 16]; omega
            rw [e, N.B.cell, kcells_get ws _ (by omega), KWi.new HKL.out hj (by omega)]; rfl
          have HNOW := Lib.hid hnow
          have HT := Lib.hid htgt; have HNS := Lib.hid Ns; have HKS := Lib.hid KWs; have HI := Lib.hid hi; have HCS := Lib.hid hcs; have HLAST := Lib.hid hlast; have HBOX := Lib.hid hbox
          clear hnow hLl hLV hlast hbox ho hpo hol hkn KWs hcs hv Ns htgt hwsl KWi hi
          by_cases h0 : i = 0
          · subst h0
            have hcs := HCS.out
            rw [if_pos rfl] at hcs
            obtain ⟨x, hx⟩ : ∃ x, L.getD 0 0 = x := ⟨_, rfl⟩
            obtain ⟨y, hy⟩ : ∃ x, L.getD 13 0 = x := ⟨_, rfl⟩
            obtain ⟨z, hz⟩ : ∃ x, subL y = x := ⟨_, rfl⟩
            have e1 := sum_xor8 x z
            obtain ⟨q, hq⟩ : ∃ q, x ^^^ z = q := ⟨_, rfl⟩
            have e2 := sum_xor8 q T
            rw [hx, hy, hz, hq] at hcs
            rw [← hcs] at e2
            rw [hq] at e1
            have c1 := HLAST.out 0 (by decide); have c2 := HLAST.out 13 (by decide); have c3 := HBOX.out y
            rw [hx] at c1; rw [hy] at c2; rw [hz] at c3
            have y256 : ((y.toNat : Nat) : Int) < 256 := by have := y.toNat_lt; omega
            clear hcs hx hy hz hq
            go_wp2_with fail
            refine wp_region_gr_tail 15 (by kernel_rfl) (by kernel_rfl) ?_
            simp only [List.take_succ_cons, List.take_zero, List.drop_succ_cons, List.drop_zero]
            repeat (first
              | go_big_quiet_skip
              | ((refine BigFrame.wpQuiet_want rfl (fun K hK => quiet_mk ?_)); apply Exists.intro; refine ⟨fun wq hq => ?_, hK _ ?_⟩
                 · have f0 := hq.cell c1; have f1 := hq.cell c2; have f2 := hq.cell c3; go_simp; (try simp only [↓IntWalk.iteOmega]); (try go_bits)
                   first | done | rfl | exact ⟨rfl, rfl⟩ | exact ⟨trivial, rfl⟩
                 clear hK K; (try simp only [Act.put, List.setIfInBounds_toArray, List.set_cons_zero, List.set_cons_succ])))
            refine wpQuiet_nil ?_
            intro W10 hw10
            have N10 := N.gr hw10
            have h10 := HT.out _ N10
            rw [Nat.add_zero] at h10
            obtain ⟨t1, t2⟩ := h10
            have N11 := HNS.out _ N10
            rw [Nat.add_zero] at N11
            clear N c1 c2 c3 e1 e2 hw10 N10
            go_wp2_with fail
            go_roundg g2
            case rel => exact ⟨1, _, by have := HI.out; omega, by simp, N11, HKS.out⟩
            case measure => omega
          · by_cases h4 : i < 4
            · have hcs := HCS.out
              rw [if_neg h0, if_pos h4] at hcs
              obtain ⟨k, hk4⟩ : ∃ k, 12 + (i + 1) % 4 = k := ⟨_, rfl⟩
              rw [hk4] at hcs
              have c1 := HLAST.out i hi16n
              obtain ⟨x, hx⟩ : ∃ x, L.getD i 0 = x := ⟨_, rfl⟩
              have c2 := HLAST.out k (by omega)
              obtain ⟨y, hy⟩ : ∃ x, L.getD k 0 = x := ⟨_, rfl⟩
              have c3 := HBOX.out y
              obtain ⟨z, hz⟩ : ∃ x, subL y = x := ⟨_, rfl⟩
              have e1 := sum_xor8 x z
              rw [hx, hy, hz] at hcs
              rw [← hcs] at e1
              rw [hx] at c1; rw [hy] at c2; rw [hz] at c3
              have y256 : ((y.toNat : Nat) : Int) < 256 := by have := y.toNat_lt; omega
              clear hcs hx hy hz
              obtain rfl | rfl | rfl : i = 1 ∨ i = 2 ∨ i = 3 := by omega
              all_goals
                simp only [Nat.reduceAdd, Nat.reduceMod] at hk4
                subst hk4
                go_wp2_with fail
                refine wp_region_gr_tail 17 (by kernel_rfl) (by kernel_rfl) ?_
                simp only [List.take_succ_cons, List.take_zero, List.drop_succ_cons, List.drop_zero]
                repeat (first
                  | go_big_quiet_skip
                  | ((refine BigFrame.wpQuiet_want rfl (fun K hK => quiet_mk ?_)); apply Exists.intro; refine ⟨fun wq hq => ?_, hK _ ?_⟩
                     · have f0 := hq.cell c1; have f1 := hq.cell c2; have f2 := hq.cell c3; go_simp; (try simp only [↓IntWalk.iteOmega]); (try go_bits)
                       first | done | rfl | exact ⟨rfl, rfl⟩ | exact ⟨trivial, rfl⟩
                     clear hK K; (try simp only [Act.put, List.setIfInBounds_toArray, List.set_cons_zero, List.set_cons_succ])))
                refine wpQuiet_nil ?_
                intro W10 hw10
                have N10 := N.gr hw10
                obtain ⟨t1, t2⟩ := HT.out _ N10
                have N11 := HNS.out _ N10
                clear N c1 c2 c3 e1 hw10 N10
                go_wp2_with fail
                go_roundg g2
                case rel => exact ⟨_, _, by have := HI.out; omega, by simp, N11, HKS.out⟩
                case measure => omega
            · have hcs := HCS.out
              rw [if_neg h0, if_neg h4] at hcs
              obtain ⟨k, hk4⟩ : ∃ k, i - 4 = k := ⟨_, rfl⟩
              have him : (i : Int) - 4 = (k : Int) := by omega
              rw [hk4] at hcs
              have c1 := HLAST.out i hi16n
              obtain ⟨x, hx⟩ : ∃ x, L.getD i 0 = x := ⟨_, rfl⟩
              have c2 := HNOW.out k (by omega)
              obtain ⟨y, hy⟩ : ∃ x, (keyR KEY (r + 1)).getD k 0 = x := ⟨_, rfl⟩
              have e1 := sum_xor8 x y
              rw [hx, hy] at hcs
              rw [← hcs] at e1
              rw [hx] at c1; rw [hy] at c2
              have hk16 : (k : Int) < 16 := by omega
              have hi0 : ¬ (i : Int) = 0 := by omega
              have hi4 : ¬ (i : Int) < 4 := by omega
              clear hcs hx hy hk4 h0 h4
              go_wp2_with fail
              refine wp_region_gr_tail 14 (by kernel_rfl) (by kernel_rfl) ?_
              simp only [List.take_succ_cons, List.take_zero, List.drop_succ_cons, List.drop_zero]
              repeat (first
                | go_big_quiet_skip
                | ((refine BigFrame.wpQuiet_want rfl (fun K hK => quiet_mk ?_)); apply Exists.intro; refine ⟨fun wq hq => ?_, hK _ ?_⟩
                   · have f0 := hq.cell c1; have f1 := hq.cell c2; go_simp; (try simp only [↓IntWalk.iteOmega]); (try go_bits)
                     first | done | rfl | exact ⟨rfl, rfl⟩ | exact ⟨trivial, rfl⟩
                   clear hK K; (try simp only [Act.put, List.setIfInBounds_toArray, List.set_cons_zero, List.set_cons_succ])))
              refine wpQuiet_nil ?_
              intro W10 hw10
              have N10 := N.gr hw10
              obtain ⟨t1, t2⟩ := HT.out _ N10
              have N11 := HNS.out _ N10
              clear N c1 c2 e1 hw10 N10
              go_wp2_with fail
              go_roundg g2
              case rel => exact ⟨_, _, by have := HI.out; omega, by simp, N11, HKS.out⟩
              case measure => omega
end Go.Proofs.Ytkblkdojmfgneaa
