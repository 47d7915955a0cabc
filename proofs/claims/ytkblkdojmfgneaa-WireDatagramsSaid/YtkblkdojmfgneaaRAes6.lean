/- The document's AES: By. -/
import Derived.Test.YtkblkdojmfgneaaRAes5
namespace Go.Proofs.Ytkblkdojmfgneaa
open Go.RowKit

theorem trL_zero : bcells (trL (List.replicate 16 0)) = z16 := by kernel_rfl
theorem bcells_trz : bcells (List.replicate 16 0) = z16 := by kernel_rfl
set_option maxHeartbeats 16000000 in
set_option maxRecDepth 20000 in
theorem rby_any (key x : List UInt8) (hk : key.length = 16) (hx : x.length = 16) (rb c0 fb c1 : Nat) (w : World) (R : BRow w rb boxL) (FR : FRow w fb (keysN key 10)) :
    Calls Try.prog 57 #[.slice (some ⟨rb, 0, none⟩) 256 c0, .slice (some ⟨fb, 0, none⟩) 44 c1, .agg (bcells x)] w fun e w' => e = .returned (.agg (bcells (encL key x))) ∧ Below w.heap.size w w' := by
  obtain ⟨E, hE⟩ : ∃ E, encL key x = E := ⟨_, rfl⟩
  rw [hE]
  have hE1 : encGo key 10 1 (addL x (keyR key 0)) = E := hE
  have HE := Lib.hid hE1
  have hxs := bcells_len x hx
  have hal := addL_len x (keyR key 0) hx (keyR_len key hk 0)
  have hkl0 := keyR_len key hk 0
  clear hE hE1
  go_enter Try.func57, Try.ntmps57
  go_upto_region 2 with fail
  refine wp_absQ (fun W => Below w.heap.size w W ∧ Blk W w.heap.size (bcells x) 25 ∧ Blk W (w.heap.size + 1) z16 25 ∧ Blk W (w.heap.size + 1 + 1) (bcells (trL (List.replicate 16 0))) 126) ⟨by (repeat (first | (with_reducible assumption) | (with_reducible exact Below.refl _ _) | with_reducible apply bl_drewN | with_reducible apply Below.drew | (with_reducible apply bl_alloc; focus (first | (simp; done) | (simp; omega) | omega)) | (with_reducible apply bl_set; focus (first | (simp; done) | (simp; omega) | omega)))), by (repeat (first | (with_reducible assumption) | (with_reducible apply Blk.new'; (first | (with_reducible rfl) | (simp; done))) | with_reducible apply Blk.alloc | with_reducible apply Blk.set | ((with_reducible apply Blk.set_ne); focus (first | (simp; done) | (simp; omega))) | with_reducible apply Blk.drewN | with_reducible apply Blk.drew)), Blk.alloc (Blk.new' (by simp)), by rw [trL_zero]; exact Blk.new' (by simp)⟩ (fun W1 V1 => ?_)
  obtain ⟨b, hb⟩ : ∃ b, w.heap.size = b := ⟨_, rfl⟩
  have HBb := Lib.hid hb
  have hrbl := R.lt
  have hfbl := FR.1
  rw [hb] at V1 hrbl hfbl ⊢
  clear hb
  obtain ⟨HB1, P1, Z1, S1⟩ := V1
  go_wp2_with fail
  go_loopg [8] 16 (fun gk t8 wr => ∃ (i : Nat) (m : List UInt8), i + gk = 16 ∧ t8 = .int .i64 (i : Int) ∧ Below b w wr ∧ Blk wr b (bcells x) 25 ∧ Blk wr (b + 1) z16 25 ∧ Blk wr (b + 1 + 1) (bcells (trL m)) 126 ∧ Fill (addL x (keyR key 0)) (List.replicate 16 0) m 16 i)
  case atStart => exact ⟨0, _, rfl, rfl, HB1, P1, Z1, S1, .start (by simp)⟩
  case round =>
    clear HB1 P1 Z1 S1
    obtain ⟨i, m, hi, rfl, HB, PB, Z, S, F⟩ := hrel
    cases gk with
    | zero =>
      obtain rfl : i = 16 := by omega
      rw [F.all hal] at S
      clear hi F PB
      obtain ⟨x0, hx0⟩ : ∃ y, addL x (keyR key 0) = y := ⟨_, rfl⟩
      rw [hx0] at S HE hal
      clear hx0
      go_wp2_with fail
      go_loopg [9] 10 (fun gk t9 wr => ∃ (r : Nat) (y : List UInt8), r + gk = 11 ∧ t9 = .int .i64 (r : Int) ∧ y.length = 16 ∧ encGo key gk r y = E ∧ Below b w wr ∧ Blk wr (b + 1) z16 25 ∧ Blk wr (b + 1 + 1) (bcells (trL y)) 126)
      case atStart => exact ⟨1, x0, rfl, rfl, hal, HE.out, HB, Z, S⟩
      case round =>
        clear HB Z S HE hal
        obtain ⟨r, y, hr, rfl, hyl, hgo, HB, Z, S⟩ := hrel
        cases gk with
        | zero =>
          obtain rfl : r = 11 := by omega
          rw [encGo] at hgo
          subst hgo
          clear hr
          have hsl := S.lt
          have V4 : YAt w (wr.alloc (.cells z16 25)) (b + 1 + 1) wr.heap.size (trL y) (List.replicate 16 0) 25 := by
            have e := HBb.out
            refine ⟨?_, ?_, Blk.alloc S, by rw [bcells_trz]; exact Blk.new _ _ _, by omega, by omega⟩
            · rw [e]; exact HB.alloc (by rw [← e]; exact HB.size) _
            · rw [e]; exact Blk.alloc Z
          clear HB Z S
          go_upto_block 14 with fail
          refine wp_absQ (fun W => YAt w W (b + 1 + 1) wr.heap.size (trL y) (List.replicate 16 0) 25) V4 (fun W4 V5 => ?_)
          obtain ⟨tb, htb⟩ : ∃ t, wr.heap.size = t := ⟨_, rfl⟩
          rw [htb] at V5 ⊢
          clear htb V4 hsl
          refine byd w W4 (b + 1 + 1) tb y hyl V5 _ _ _ _ _ _ _ _ _ _ _ _ _ _ _ _ _ _ _ _ _ _ _ _ _ _ _ _ _ _ _ _ _ _ _ _ _ _ _ _ _ _ _ _ _ _ _ _ _ _ _ _ _ _ _ _ _ _ _ _ _ _ _ _ _ _ _ _ _ _ _ _ _ _ _ _ _ _ _ _ _ _ _ _ _ _ _ _ _ _ _ _ _ _ _ _ _ _ _ _ _ _ _ _ _ _ _ _ _ _ _ _ _ _ _ _ _ _ _ _ _ _ _ _ _ _ _ _ _ _ _ _ _ _ _ _ _ _ _ _ _ _ _ _ _ _ _ _ _ _ _ _ _ _ _ _ _ _ _ _ _ _ _ _ _ _ _ _ _ _ _ _ _ _ _ _ _ _ _ _ (by intro c d v a w h; first | exact hP _ _ _ _ _ h | (cases d <;> exact h)) ?_
          intro x21 x168 x169 x170 x171 x172 x173 x174 x175 x176 x177 x178 x179 x180 W6
          rintro V6
          clear V5
          have hys := bcells_len y hyl
          have hone := bcells_one y
          obtain ⟨X, hX⟩ : ∃ X, bcells y = X := ⟨_, rfl⟩
          have XB := V6.T
          have ZB := V6.Z
          have hbt := V6.h2
          rw [hX] at XB hys hone
          rw [HBb.out] at ZB
          go_wp2_with (first | (refine wpList_load_row rfl 25 _ rfl tb rfl 25 _ (0, 0) _ XB.out Try.underlying25 rfl (by rw [hys]; kernel_rfl) ?_) | (refine wpList_put rfl 25 _ _ rfl (b + 1) _ _ 25 rfl rfl ZB (by rw [hys]; kernel_rfl) (hys.trans rfl) hone (fun W9 hp9 B9 => ?_)))
          refine bodyPost_ret (v := .agg X) ?_ rfl ⟨by rw [hX], hp9.below (by rw [HBb.out]; omega) V6.HB⟩
          exact results_cell_row (Try.results57) _ _ (b + 1) 25 _ (0, 0) _ rfl B9.out Try.underlying25 rfl (by rw [hys]; kernel_rfl)
        | succ g =>
          have hr10 : (r : Int) ≤ 10 := by omega
          have hr10n : r ≤ 10 := by omega
          rw [encGo] at hgo
          have HG := Lib.hid hgo; have HR := Lib.hid hr
          have hsl := S.lt
          have V4 : YAt w (wr.alloc (.cells z16 126)) (b + 1 + 1) wr.heap.size (trL y) (List.replicate 16 0) := by
            have e := HBb.out
            refine ⟨?_, ?_, Blk.alloc S, by rw [bcells_trz]; exact Blk.new _ _ _, by omega, by omega⟩
            · rw [e]; exact HB.alloc (by rw [← e]; exact HB.size) _
            · rw [e]; exact Blk.alloc Z
          clear hgo hr HB Z S
          go_upto_block 4 with fail
          refine wp_absQ (fun W => YAt w W (b + 1 + 1) wr.heap.size (trL y) (List.replicate 16 0)) V4 (fun W4 V5 => ?_)
          obtain ⟨tb, htb⟩ : ∃ t, wr.heap.size = t := ⟨_, rfl⟩
          rw [htb] at V5 ⊢
          clear htb V4 hsl
          refine bya w W4 rb c0 (b + 1 + 1) tb y R V5 _ _ _ _ _ _ _ _ _ _ _ _ _ _ _ _ _ _ _ _ _ _ _ _ _ _ _ _ _ _ _ _ _ _ _ _ _ _ _ _ _ _ _ _ _ _ _ _ _ _ _ _ _ _ _ _ _ _ _ _ _ _ _ _ _ _ _ _ _ _ _ _ _ _ _ _ _ _ _ _ _ _ _ _ _ _ _ _ _ _ _ _ _ _ _ _ _ _ _ _ _ _ _ _ _ _ _ _ _ _ _ _ _ _ _ _ _ _ _ _ _ _ _ _ _ _ _ _ _ _ _ _ _ _ _ _ _ _ _ _ _ _ _ _ _ _ _ _ _ _ _ _ _ _ _ _ _ _ _ _ _ _ _ _ _ _ _ _ _ _ _ _ _ _ _ _ _ _ _ (by intro c d v a w h; first | exact hP _ _ _ _ _ h | (cases d <;> exact h)) ?_
          intro x11 x12 x48 x49 x50 x51 x52 x53 x54 x55 x56 x57 x58 x59 x60 x61 x62 x63 x64 x65 x66 x67 x68 x69 x70 W6
          rintro V6
          clear V5
          have htl := turnedL_len y
          obtain ⟨z, hz⟩ : ∃ z, turnedL y = z := ⟨_, rfl⟩
          rw [hz] at V6 HG htl
          clear hz
          by_cases h10 : r < 10
          · have h10i : (r : Int) < 10 := by omega
            have hg := HG.out
            rw [if_pos h10] at hg
            go_upto_block 8 with fail
            refine byb w W6 (b + 1 + 1) tb (trL y) z htl V6 _ _ _ _ _ _ _ _ _ _ _ _ _ _ _ _ _ _ _ _ _ _ _ _ _ _ _ _ _ _ _ _ _ _ _ _ _ _ _ _ _ _ _ _ _ _ _ _ _ _ _ _ _ _ _ _ _ _ _ _ _ _ _ _ _ _ _ _ _ _ _ _ _ _ _ _ _ _ _ _ _ _ _ _ _ _ _ _ _ _ _ _ _ _ _ _ _ _ _ _ _ _ _ _ _ _ _ _ _ _ _ _ _ _ _ _ _ _ _ _ _ _ _ _ _ _ _ _ _ _ _ _ _ _ _ _ _ _ _ _ _ _ _ _ _ _ _ _ _ _ _ _ _ _ _ _ _ _ _ _ _ _ _ _ _ _ _ _ _ _ _ _ _ _ _ _ _ _ _ _ (by intro c d v a w h; first | exact hP _ _ _ _ _ h | (cases d <;> exact h)) ?_
            intro x13 x14 x15 x16 x17 x73 x74 x75 x76 x77 x78 x79 x80 x81 x82 x83 x84 x85 x86 x87 x88 x89 x90 x91 x92 x93 x94 x95 x96 x97 x98 x99 x100 x101 x102 x103 x104 x105 x106 x107 x108 x109 x110 x111 x112 x113 x114 x115 x116 x117 x118 x119 x120 x121 x122 x123 x124 x125 x126 x127 x128 x129 x130 x131 x132 x133 x134 x135 x136 x137 x138 x139 x140 W7
            rintro V7
            clear V6
            have hml := mixedL_len z
            obtain ⟨z2, hz2⟩ : ∃ q, mixedL z = q := ⟨_, rfl⟩
            rw [hz2] at V7 hg hml
            clear hz2 htl
            go_upto_block 10 with fail
            refine byc w W7 fb c1 r (b + 1 + 1) tb key y z2 hk hml hr10n FR V7 _ _ _ _ _ _ _ _ _ _ _ _ _ _ _ _ _ _ _ _ _ _ _ _ _ _ _ _ _ _ _ _ _ _ _ _ _ _ _ _ _ _ _ _ _ _ _ _ _ _ _ _ _ _ _ _ _ _ _ _ _ _ _ _ _ _ _ _ _ _ _ _ _ _ _ _ _ _ _ _ _ _ _ _ _ _ _ _ _ _ _ _ _ _ _ _ _ _ _ _ _ _ _ _ _ _ _ _ _ _ _ _ _ _ _ _ _ _ _ _ _ _ _ _ _ _ _ _ _ _ _ _ _ _ _ _ _ _ _ _ _ _ _ _ _ _ _ _ _ _ _ _ _ _ _ _ _ _ _ _ _ _ _ _ _ _ _ _ _ _ _ _ _ _ _ _ _ _ (by intro c d v a w h; first | exact hP _ _ _ _ _ h | (cases d <;> exact h)) ?_
            intro x18 x19 x141 x142 x143 x144 x145 x146 x147 x148 x149 x150 x151 x152 x153 x154 x155 x156 x157 x158 x159 x160 x161 x162 x163 x164 x165 x166 x167 W8
            rintro V8
            have hal := addL_len z2 (keyR key r) hml (keyR_len key hk r)
            obtain ⟨u, hu⟩ : ∃ u, addL z2 (keyR key r) = u := ⟨_, rfl⟩
            rw [hu] at hal hg V8
            have HGG := Lib.hid hg
            have HB8 := V8.HB
            have Z8 := V8.Z
            have S8 := V8.S
            rw [HBb.out] at HB8 Z8
            clear hu V7 V8 hg
            go_wp2_with fail
            go_roundg g
            case rel => exact ⟨r + 1, u, by have := HR.out; omega, by simp, hal, HGG.out, HB8, Z8, S8⟩
            case measure => omega
          · have h10i : ¬ (r : Int) < 10 := by omega
            have hg := HG.out
            rw [if_neg h10] at hg
            go_upto_block 10 with fail
            refine byc w W6 fb c1 r (b + 1 + 1) tb key y z hk htl hr10n FR V6 _ _ _ _ _ _ _ _ _ _ _ _ _ _ _ _ _ _ _ _ _ _ _ _ _ _ _ _ _ _ _ _ _ _ _ _ _ _ _ _ _ _ _ _ _ _ _ _ _ _ _ _ _ _ _ _ _ _ _ _ _ _ _ _ _ _ _ _ _ _ _ _ _ _ _ _ _ _ _ _ _ _ _ _ _ _ _ _ _ _ _ _ _ _ _ _ _ _ _ _ _ _ _ _ _ _ _ _ _ _ _ _ _ _ _ _ _ _ _ _ _ _ _ _ _ _ _ _ _ _ _ _ _ _ _ _ _ _ _ _ _ _ _ _ _ _ _ _ _ _ _ _ _ _ _ _ _ _ _ _ _ _ _ _ _ _ _ _ _ _ _ _ _ _ _ _ _ _ (by intro c d v a w h; first | exact hP _ _ _ _ _ h | (cases d <;> exact h)) ?_
            intro x18 x19 x141 x142 x143 x144 x145 x146 x147 x148 x149 x150 x151 x152 x153 x154 x155 x156 x157 x158 x159 x160 x161 x162 x163 x164 x165 x166 x167 W8
            rintro V8
            have hal := addL_len z (keyR key r) htl (keyR_len key hk r)
            obtain ⟨u, hu⟩ : ∃ u, addL z (keyR key r) = u := ⟨_, rfl⟩
            rw [hu] at hal hg V8
            have HGG := Lib.hid hg
            have HB8 := V8.HB
            have Z8 := V8.Z
            have S8 := V8.S
            rw [HBb.out] at HB8 Z8
            clear hu V6 V8 hg
            go_wp2_with fail
            go_roundg g
            case rel => exact ⟨r + 1, u, by have := HR.out; omega, by simp, hal, HGG.out, HB8, Z8, S8⟩
            case measure => omega
    | succ g =>
      have hi16 : (i : Int) < 16 := by omega
      have hin : i < 16 := by omega
      have F2 := F.step hin
      rw [addL_get x _ i (by omega) (by omega)] at F2
      obtain ⟨r, hr⟩ : ∃ r, i % 4 = r := ⟨_, rfl⟩
      obtain ⟨c, hc⟩ : ∃ r, i / 4 = r := ⟨_, rfl⟩
      have i1 : (i : Int) % 4 = (r : Int) := by omega
      have i2 : (i : Int) / 4 = (c : Int) := by omega
      have i3 : (r : Int) < 4 := by omega
      have i4 : (c : Int) < 4 := by omega
      have i5 : (c : Int) < 44 := by omega
      have a1 : wr.cell? ⟨b, i, none⟩ = _ := PB.cell i
      rw [bcells_get x i (by omega)] at a1
      obtain ⟨p, hp⟩ : ∃ p, x.getD i 0 = p := ⟨_, rfl⟩
      rw [hp] at a1 F2
      have a2 : wr.cell? ⟨fb, c * 4 + r, none⟩ = some (.int .u8 ((((keyR key 0).getD i 0).toNat : Nat) : Int)) := by
        have hfl := keysN_len key hk 10
        have h5 := keysN_get key hk 0 i (by omega) 10 (by omega)
        rw [Nat.mul_zero, Nat.zero_add] at h5
        rw [(HB.cell (p := ⟨fb, c * 4 + r, none⟩) hfbl).trans (FR.2 (c * 4 + r) (by omega)), show c * 4 + r = i by omega, h5]
      obtain ⟨q, hq⟩ : ∃ p, (keyR key 0).getD i 0 = p := ⟨_, rfl⟩
      rw [hq] at a2 F2
      have e1 := sum_xor8 p q
      obtain ⟨v, hv⟩ : ∃ v, p ^^^ q = v := ⟨_, rfl⟩
      rw [hv] at e1 F2
      have a3 : wr.cell? ⟨b + 1 + 1, r * 4 + c, none⟩ = _ := S.cell _
      rw [bcells_get _ _ (by rw [trL_len]; omega)] at a3
      have hts := trL_set m F.len i hin v
      rw [hr, hc] at hts
      have HF2 := Lib.hid F2; have HI := Lib.hid hi; have HTS := Lib.hid hts
      clear hr hc hp hq hv F2 F hi hts
      go_wp2_with fail
      refine wp_region_gr_tail 18 (by kernel_rfl) (by kernel_rfl) ?_
      simp only [List.take_succ_cons, List.take_zero, List.drop_succ_cons, List.drop_zero]
      repeat (first
        | go_big_quiet_skip
        | ((refine BigFrame.wpQuiet_want rfl (fun K hK => quiet_mk ?_)); apply Exists.intro; refine ⟨fun wq hq => ?_, hK _ ?_⟩
           · have f0 := hq.cell a1; have f1 := hq.cell a2; go_simp; (try simp only [↓IntWalk.iteOmega]); (try go_bits)
             first | done | rfl | exact ⟨rfl, rfl⟩ | exact ⟨trivial, rfl⟩
           clear hK K; (try simp only [Act.put, List.setIfInBounds_toArray, List.set_cons_zero, List.set_cons_succ])))
      refine wpQuiet_nil ?_
      intro W10 hw10
      have a4 := hw10.cell a3
      have S10 := S.gr hw10
      have f4 := S10.frozen (r * 4 + c)
      have S11 := S10.set (o := r * 4 + c) (v := .int .u8 ((v.toNat : Nat) : Int))
      rw [bcells_set, HTS.out] at S11
      have P11 := (PB.gr hw10).set_ne (a := ⟨b + 1 + 1, r * 4 + c, none⟩) (v := .int .u8 ((v.toNat : Nat) : Int)) (by show b ≠ b + 1 + 1; omega)
      have Z11 := (Z.gr hw10).set_ne (a := ⟨b + 1 + 1, r * 4 + c, none⟩) (v := .int .u8 ((v.toNat : Nat) : Int)) (by show b + 1 ≠ b + 1 + 1; omega)
      have HBs : b ≤ wr.heap.size := by rw [← HBb.out]; exact HB.size
      have HB11 := (Below.thn HB hw10.out HBs).setCell (p := ⟨b + 1 + 1, r * 4 + c, none⟩) (by show b ≤ b + 1 + 1; omega) (.int .u8 ((v.toNat : Nat) : Int))
      clear HB PB Z S a1 a2 a3 hw10 S10 e1 i1 i2 i3 i4 i5 HBs
      go_wp2_with fail
      go_roundg g
      case rel => exact ⟨i + 1, _, by have := HI.out; omega, by simp, HB11, P11, Z11, S11, HF2.out⟩
      case measure => omega
end Go.Proofs.Ytkblkdojmfgneaa
