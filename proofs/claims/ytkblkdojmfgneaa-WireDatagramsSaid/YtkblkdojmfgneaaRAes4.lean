/- The document's AES: Words. -/
import Derived.Test.YtkblkdojmfgneaaRAesA
import Derived.Test.YtkblkdojmfgneaaCtrW
namespace Go.Proofs.Ytkblkdojmfgneaa
open Go.RowKit

/-- Bytes that lie in a block. -/
def FRow (w : World) (b : Nat) (l : List UInt8) : Prop := b < w.heap.size ∧ ∀ j, j < l.length → w.cell? ⟨b, j, none⟩ = some (.int .u8 (((l.getD j 0).toNat : Nat) : Int))
theorem FRow.below {w w' : World} {b : Nat} {l : List UInt8} (h : FRow w b l) (g : Below w.heap.size w w') : FRow w' b l :=
  ⟨Nat.lt_of_lt_of_le h.1 g.size, fun i hi => (g.cell (p := ⟨b, i, none⟩) h.1).trans (h.2 i hi)⟩
theorem info4x : (Try.prog.info? 125).map (fun i => (i.zero, i.size, i.bytes)) = some (some (.agg #[.int .u8 0, .int .u8 0, .int .u8 0, .int .u8 0]), 4, 4) := by kernel_rfl
def WRow (F : List UInt8) (n : Nat) : List Value := (F.take (4 * n)).map bval
theorem wrow_cell {w : World} {base n g c : Nat} {F : List UInt8} (h : w.ownsRow base 125 4 (.slice (some ⟨g, 0, none⟩) n c) n (WRow F n)) (hF : 4 * n ≤ F.length) (j : Nat) (hj : j < 4 * n) : w.cell? ⟨g, j, none⟩ = some (.int .u8 (((F.getD j 0).toNat : Nat) : Int)) := by
  rw [World.ownsRow.cellAt h j (by omega)]
  unfold WRow
  rw [List.getElem?_map, List.getElem?_take_of_lt hj, List.getD_eq_getElem?_getD, List.getElem?_eq_getElem (by omega : j < F.length)]; rfl
theorem wrow_snoc (F : List UInt8) (i : Nat) (h : 4 * i + 4 ≤ F.length) : WRow F (i + 1) = WRow F i ++ [bval (F.getD (4 * i) 0), bval (F.getD (4 * i + 1) 0), bval (F.getD (4 * i + 2) 0), bval (F.getD (4 * i + 3) 0)] := flat_snoc F i h
theorem news_blk {w : World} {b : Nat} {l : List Value} {t : TypeId} (B : Blk w b l.toArray t) : ∀ (j : Nat) (u : Value), l[j]? = some u → w.cell? ((⟨b, 0, none⟩ : Addr).add j) = some u := fun j u hj => by
  rw [Addr.add_mid, Nat.zero_add, B.cell, List.getElem?_toArray, hj]
set_option maxHeartbeats 16000000 in
set_option maxRecDepth 20000 in
theorem rwords_any (key : ByteArray) (KL : List UInt8) (hkl : key.data.toList = KL) (hk : key.size = 16) (rb c : Nat) (w : World) (R : BRow w rb boxL) : Calls Try.prog 56 #[.string key, .slice (some ⟨rb, 0, none⟩) 256 c] w fun e w' => ∃ b c2, e = .returned (.slice (some ⟨b, 0, none⟩) 44 c2) ∧ w.heap.size ≤ b ∧ FRow w' b (keysN KL 10) ∧ Below w.heap.size w w' := by
  obtain ⟨i0, hi0, hz0, hz1, hz2⟩ := info_parts info4x
  have hKL : KL.length = 16 := by rw [← hkl]; exact hk
  have hold : ∀ i k, i < 4 → k < 4 → (keysN KL 10).getD (4 * i + k) 0 = KL.getD (4 * i + k) 0 := words_old KL hKL
  have hrest := words_rest KL hKL
  have hturn := words_turn KL hKL
  have hFl := keysN_len KL hKL 10
  obtain ⟨F, hF⟩ : ∃ F, keysN KL 10 = F := ⟨_, rfl⟩
  rw [hF] at hold hrest hturn hFl ⊢
  have HO := Lib.hid hold; have HRS := Lib.hid hrest; have HTU := Lib.hid hturn; have HFL := Lib.hid hFl
  clear hold hrest hturn hFl hF hKL
  go_enter Try.func56, Try.ntmps56
  go_wp2_with fail
  go_loopg [5, 6] 4 (fun gk t5 t6 wr => ∃ i : Nat, t6 = .int .i64 (i : Int) ∧ i + gk = 4 ∧ wr.ownsRow w.heap.size 125 4 t5 i (WRow F i) ∧ Below w.heap.size w wr)
  case atStart => exact ⟨0, rfl, rfl, World.ownsRow_nil _ _ _ _, Below.refl _ _⟩
  case round =>
    obtain ⟨i, rfl, hi, ho, HB⟩ := hrel
    have HBs := HB.size
    obtain ⟨a1, c1, h1⟩ := own_slice ho
    subst h1
    cases gk with
    | zero =>
      obtain rfl : i = 4 := by omega
      clear hi
      go_wp2_with fail
      go_loopg [5, 7, 8] 40 (fun gk t5 t7 t8 wr => ∃ i : Nat, t8 = .int .i64 (i : Int) ∧ i + gk = 44 ∧ 4 ≤ i ∧ t7 = .int .u8 (((turnL ((i - 1) / 4)).toNat : Nat) : Int) ∧ wr.ownsRow w.heap.size 125 4 t5 i (WRow F i) ∧ Below w.heap.size w wr)
      case atStart => exact ⟨4, rfl, rfl, by decide, rfl, ho, HB⟩
      case round =>
        clear ho HB HBs
        obtain ⟨i, rfl, hi, hi4, rfl, ho, HB⟩ := hrel
        have HBs := HB.size
        obtain ⟨g3, c3, rfl, hg3, hgl3, hc3⟩ := own_reads ho (by omega)
        cases gk with
        | zero =>
          obtain rfl : i = 44 := by omega
          have hfr : FRow wr g3 F := ⟨hgl3, fun j hj => wrow_cell ho (by have := HFL.out; omega) j (by have := HFL.out; omega)⟩
          clear hi hi4 hc3
          go_wp2_with fail
          go_ret
          exact ⟨g3, c3, rfl, hg3, hfr, HB⟩
        | succ g =>
          have hi44 : (i : Int) < 44 := by omega
          have hin : i < 44 := by omega
          obtain ⟨im, him⟩ : ∃ j, i - 1 = j := ⟨_, rfl⟩
          have him1 : (i : Int) - 1 = (im : Int) := by omega
          have him2 : (im : Int) < (i : Int) := by omega
          obtain ⟨tb, htb⟩ : ∃ b, wr.heap.size = b := ⟨_, rfl⟩
          have HTB := Lib.hid htb
          have hcell : ∀ W, Below tb wr W → ∀ j, j < 4 * i → W.cell? ⟨g3, j, none⟩ = some (.int .u8 (((F.getD j 0).toNat : Nat) : Int)) := fun W hb j hj =>
            (hb.cell (p := ⟨g3, j, none⟩) (by show g3 < tb; omega)).trans (wrow_cell ho (by have := HFL.out; omega) j hj)
          have hown : ∀ W, Below tb wr W → W.ownsRow w.heap.size 125 4 (.slice (some ⟨g3, 0, none⟩) i c3) i (WRow F i) := fun W hb => own_below ho (by rw [htb]; exact hb)
          have hbel : ∀ W, Below tb wr W → Below w.heap.size w W := fun W hb => HB.trans (hb.mono (by omega))
          have hboxr : ∀ W, Below tb wr W → BRow W rb boxL := fun W hb => (R.below HB).below (by rw [htb]; exact hb)
          obtain ⟨x0, h0⟩ : ∃ x, F.getD (4 * im) 0 = x := ⟨_, rfl⟩
          obtain ⟨x1, h1⟩ : ∃ x, F.getD (4 * im + 1) 0 = x := ⟨_, rfl⟩
          obtain ⟨x2, h2⟩ : ∃ x, F.getD (4 * im + 2) 0 = x := ⟨_, rfl⟩
          obtain ⟨x3, h3⟩ : ∃ x, F.getD (4 * im + 3) 0 = x := ⟨_, rfl⟩
          have hrange : wr.rangeAt g3 (im * 4) [.int .u8 ((x0.toNat : Nat) : Int), .int .u8 ((x1.toNat : Nat) : Int), .int .u8 ((x2.toNat : Nat) : Int), .int .u8 ((x3.toNat : Nat) : Int)] := fun j v hv => by
            have hj : j < 4 := (List.getElem?_eq_some_iff.1 hv).1
            rw [hcell wr (Below.refl _ _) _ (by omega), ← hv]
            obtain rfl | rfl | rfl | rfl : j = 0 ∨ j = 1 ∨ j = 2 ∨ j = 3 := by omega
            · rw [Nat.add_zero, Nat.mul_comm, h0]; rfl
            · rw [Nat.mul_comm, h1]; rfl
            · rw [Nat.mul_comm, h2]; rfl
            · rw [Nat.mul_comm, h3]; rfl
          have HI := Lib.hid hi; have HIM := Lib.hid him; have HC := Lib.hid hcell
          have HX := Lib.hid (And.intro h0 (And.intro h1 (And.intro h2 h3))); have HOW := Lib.hid hown; have HBE := Lib.hid hbel; have HBX := Lib.hid hboxr
          have hwt : w.heap.size ≤ tb := by omega
          clear hi him hcell h0 h1 h2 h3 hc3 hown hbel hboxr ho HB HBs htb
          go_upto_region 11 with (first | (refine wpList_load_mid rfl 125 _ rfl g3 (im * 4) rfl _ _ hrange Try.underlying125 rfl (by kernel_rfl) ?_) | (refine wpList_put rfl 125 _ _ rfl wr.heap.size _ (bcells [x0, x1, x2, x3]) 125 rfl rfl (Blk.new _ _ _) (by kernel_rfl) rfl (bcells_one _) (fun W2 hp2 T2 => ?_)))
          (try simp only [Act.put])
          have htb := HTB.out
          have HW2 : Below tb wr W2 := by
            rw [← htb]
            exact hp2.below (Nat.le_refl _) (by (repeat (first | (with_reducible assumption) | (with_reducible exact Below.refl _ _) | with_reducible apply bl_drewN | with_reducible apply Below.drew | (with_reducible apply bl_alloc; focus (first | (simp; done) | (simp; omega) | omega)) | (with_reducible apply bl_set; focus (first | (simp; done) | (simp; omega) | omega)))))
          rw [htb] at T2 ⊢
          clear hp2 hrange htb
          by_cases hm : i % 4 = 0
          · have hmi : (i : Int) % 4 = 0 := by omega
            obtain ⟨r, hr⟩ : ∃ r, i = 4 * (r + 1) := ⟨i / 4 - 1, by omega⟩
            have hir : (i - 1) / 4 = r := by omega
            have hr10 : r < 10 := by omega
            rw [hir]
            have HR9 := Lib.hid hr; have HIR := Lib.hid hir
            clear hm hr hir
            go_upto_region 12 with fail
            have t0 : W2.cell? ⟨tb, 0, none⟩ = some (.int .u8 ((x0.toNat : Nat) : Int)) := T2.cell 0
            have t1 : W2.cell? ⟨tb, 1, none⟩ = some (.int .u8 ((x1.toNat : Nat) : Int)) := T2.cell 1
            have t2 : W2.cell? ⟨tb, 2, none⟩ = some (.int .u8 ((x2.toNat : Nat) : Int)) := T2.cell 2
            have t3 : W2.cell? ⟨tb, 3, none⟩ = some (.int .u8 ((x3.toNat : Nat) : Int)) := T2.cell 3
            have hbx : ∀ x : UInt8, W2.cell? ⟨rb, x.toNat, none⟩ = some (.int .u8 (((subL x).toNat : Nat) : Int)) := fun x => by
              exact (HBX.out W2 HW2).cell x.toNat (by rw [boxL_len]; exact x.toNat_lt)
            have b0 := hbx x0; have b1 := hbx x1; have b2 := hbx x2; have b3 := hbx x3
            obtain ⟨s0, hs0⟩ : ∃ s, subL x0 = s := ⟨_, rfl⟩
            obtain ⟨s1, hs1⟩ : ∃ s, subL x1 = s := ⟨_, rfl⟩
            obtain ⟨s2, hs2⟩ : ∃ s, subL x2 = s := ⟨_, rfl⟩
            obtain ⟨s3, hs3⟩ : ∃ s, subL x3 = s := ⟨_, rfl⟩
            rw [hs0] at b0; rw [hs1] at b1; rw [hs2] at b2; rw [hs3] at b3
            obtain ⟨con, hcon⟩ : ∃ s, turnL r = s := ⟨_, rfl⟩
            rw [hcon]
            have e1 := sum_xor8 s1 con
            obtain ⟨y, hy⟩ : ∃ s, s1 ^^^ con = s := ⟨_, rfl⟩
            rw [hy] at e1
            have hTW : turnedW F i (turnL r) = [y, s2, s3, s0] := by
              obtain ⟨g0, g1, g2, g3'⟩ := HX.out
              unfold turnedW
              rw [HIM.out, g0, g1, g2, g3', hs0, hs1, hs2, hs3, hcon, hy]
            have l0 : ((x0.toNat : Nat) : Int) < 256 := by have := x0.toNat_lt; omega
            have l1 : ((x1.toNat : Nat) : Int) < 256 := by have := x1.toNat_lt; omega
            have l2 : ((x2.toNat : Nat) : Int) < 256 := by have := x2.toNat_lt; omega
            have l3 : ((x3.toNat : Nat) : Int) < 256 := by have := x3.toNat_lt; omega
            have HTW := Lib.hid hTW; have HCON := Lib.hid hcon
            clear hbx hs0 hs1 hs2 hs3 hy hTW hcon
            refine wp_region_gr_tail 23 (by kernel_rfl) (by kernel_rfl) ?_
            simp only [List.take_succ_cons, List.take_zero, List.drop_succ_cons, List.drop_zero]
            repeat (first
              | go_big_quiet_skip
              | ((refine BigFrame.wpQuiet_want rfl (fun K hK => quiet_mk ?_)); apply Exists.intro; refine ⟨fun wq hq => ?_, hK _ ?_⟩
                 · have f0 := hq.cell t0; have f1 := hq.cell t1; have f2 := hq.cell t2; have f3 := hq.cell t3; have f4 := hq.cell b0; have f5 := hq.cell b1; have f6 := hq.cell b2; have f7 := hq.cell b3; go_simp; (try simp only [↓IntWalk.iteOmega]); (try go_bits)
                   first | done | rfl | exact ⟨rfl, rfl⟩ | exact ⟨trivial, rfl⟩
                 clear hK K; (try simp only [Act.put, List.setIfInBounds_toArray, List.set_cons_zero, List.set_cons_succ])))
            refine wpQuiet_nil ?_
            intro W3 hw3
            have HW3 : Below tb wr W3 := Below.thn HW2 hw3.out (by have := T2.lt; omega)
            have T3 := T2.gr hw3
            clear t0 t1 t2 t3 b0 b1 b2 b3 l0 l1 l2 l3 e1 HW2 T2 hw3
            go_upto_region 13 with (refine wpList_put rfl 125 _ _ rfl tb _ (bcells [y, s2, s3, s0]) 125 rfl rfl T3 (by kernel_rfl) rfl (bcells_one _) (fun W4 hp4 T4 => ?_))
            (try simp only [Act.put])
            have HW4 := hp4.below (Nat.le_refl _) HW3
            clear T3 hp4 HW3
            have hnew : ∀ k, k < 4 → F.getD (4 * i + k) 0 = F.getD (4 * (i - 4) + k) 0 ^^^ [y, s2, s3, s0].getD k 0 := fun k hk4 => by
              rw [← HTW.out, HR9.out]; exact HTU.out r k hr10 hk4
            have hct := fun W => rtimes_any con.toNat 2 con.toNat_lt (by decide) W
            rw [rTimes_2] at hct
            have hcn : timesL con 2 = turnL ((i + 1 - 1) / 4) := by
              rw [show (i + 1 - 1) / 4 = r + 1 by have := HR9.out; omega, ← HCON.out]; rfl
            rw [hcn] at hct
            have HCT := Lib.hid hct; have HNEW := Lib.hid hnew
            clear hct hcn hnew
            go_wp2_with fail
            refine (HCT.out _).mono ?_
            rintro e W5 ⟨rfl, hw5⟩
            subst hw5
            have hnl : tb < W5.heap.size := T4.lt
            go_wp2_with fail
            refine wp_absQ (fun W => Below tb wr W ∧ Blk W tb (bcells [y, s2, s3, s0]) 125 ∧ Blk W W5.heap.size (bcells [0, 0, 0, 0]) 125) ⟨by (repeat (first | (with_reducible assumption) | (with_reducible exact Below.refl _ _) | with_reducible apply bl_drewN | with_reducible apply Below.drew | (with_reducible apply bl_alloc; focus (first | (simp; done) | (simp; omega) | omega)) | (with_reducible apply bl_set; focus (first | (simp; done) | (simp; omega) | omega)))), Blk.alloc T4, Blk.new' rfl⟩ (fun W6 V6 => ?_)
            obtain ⟨nb, hnb⟩ : ∃ b, W5.heap.size = b := ⟨_, rfl⟩
            rw [hnb] at V6 hnl ⊢
            clear hnb T4 HW4
            obtain ⟨HW6, T6, N6⟩ := V6
            obtain ⟨t4, ht4⟩ : ∃ t : List UInt8, t = [F.getD (4 * i) 0, F.getD (4 * i + 1) 0, F.getD (4 * i + 2) 0, F.getD (4 * i + 3) 0] := ⟨_, rfl⟩
            have ht4l : t4.length = 4 := by rw [ht4]; rfl
            have ht4g : ∀ k, k < 4 → t4.getD k 0 = F.getD (4 * (i - 4) + k) 0 ^^^ [y, s2, s3, s0].getD k 0 := fun k hk4 => by
              rw [← HNEW.out k hk4, ht4]
              obtain rfl | rfl | rfl | rfl : k = 0 ∨ k = 1 ∨ k = 2 ∨ k = 3 := by omega
              · rfl
              · rfl
              · rfl
              · rfl
            have hsn := wrow_snoc F i (by have := HFL.out; omega)
            obtain ⟨tl, htl⟩ : ∃ t : List UInt8, [y, s2, s3, s0] = t := ⟨_, rfl⟩
            have htll : tl.length = 4 := by rw [← htl]; rfl
            rw [htl] at T6 ht4g
            have HT4 := Lib.hid ht4; have HT4L := Lib.hid ht4l; have HT4G := Lib.hid ht4g; have HSN := Lib.hid hsn; have HTLL := Lib.hid htll
            clear ht4 ht4l ht4g hsn htl htll
            obtain ⟨id, hid⟩ : ∃ j, i - 4 = j := ⟨_, rfl⟩
            have hid1 : (i : Int) - 4 = (id : Int) := by omega
            have hid2 : (id : Int) < (i : Int) := by omega
            have HID := Lib.hid hid
            clear hid
            go_loopg [11] 4 (fun g2 t11 wx => ∃ (k : Nat) (x : List UInt8), k + g2 = 4 ∧ t11 = .int .i64 (k : Int) ∧ Below tb wr wx ∧ Blk wx tb (bcells tl) 125 ∧ Blk wx nb (bcells x) 125 ∧ Fill t4 [0, 0, 0, 0] x 4 k)
            case atStart => exact ⟨0, [0, 0, 0, 0], rfl, rfl, HW6, T6, N6, .start rfl⟩
            case round =>
              clear HW6 T6 N6
              obtain ⟨k, x, hk2, rfl, HW, TB, NB, FI⟩ := hrel
              cases gk with
              | zero =>
                obtain rfl : k = 4 := by omega
                clear hk2
                have hx4 := FI.all HT4L.out
                rw [hx4, HT4.out] at NB
                clear FI hx4
                obtain ⟨z0, hz0'⟩ : ∃ z, F.getD (4 * i) 0 = z := ⟨_, rfl⟩
                obtain ⟨z1, hz1'⟩ : ∃ z, F.getD (4 * i + 1) 0 = z := ⟨_, rfl⟩
                obtain ⟨z2, hz2'⟩ : ∃ z, F.getD (4 * i + 2) 0 = z := ⟨_, rfl⟩
                obtain ⟨z3, hz3'⟩ : ∃ z, F.getD (4 * i + 3) 0 = z := ⟨_, rfl⟩
                have hsn := HSN.out
                rw [hz0', hz1', hz2', hz3'] at NB hsn
                have HSN2 := Lib.hid hsn
                have ho := HOW.out wr HW
                have HB := HBE.out wr HW
                have HBs := HB.size
                have NB2 : Blk wr nb #[Value.int .u8 ((z0.toNat : Nat) : Int), .int .u8 ((z1.toNat : Nat) : Int), .int .u8 ((z2.toNat : Nat) : Int), .int .u8 ((z3.toNat : Nat) : Int)] 125 := NB.conv rfl
                clear NB
                have B21 : Blk (wr.alloc (.cells #[Value.int .u8 ((z0.toNat : Nat) : Int), .int .u8 ((z1.toNat : Nat) : Int), .int .u8 ((z2.toNat : Nat) : Int), .int .u8 ((z3.toNat : Nat) : Int)] 125)) wr.heap.size ([Value.int .u8 ((z0.toNat : Nat) : Int), .int .u8 ((z1.toNat : Nat) : Int), .int .u8 ((z2.toNat : Nat) : Int), .int .u8 ((z3.toNat : Nat) : Int)] : List Value).toArray 125 := Blk.new _ _ _
                have o2 := ho.alloc (.cells #[Value.int .u8 ((z0.toNat : Nat) : Int), .int .u8 ((z1.toNat : Nat) : Int), .int .u8 ((z2.toNat : Nat) : Int), .int .u8 ((z3.toNat : Nat) : Int)] 125)
                clear hz0' hz1' hz2' hz3' hsn HSN
                go_wp2_with (first | (refine wpList_load_row rfl 125 _ rfl nb rfl 125 _ (0, 0) _ NB2.out Try.underlying125 rfl (by kernel_rfl) ?_) | (at_builtin; refine wpList_append_lies _ rfl _ _ 102 rfl w.heap.size 125 i0 _ 4 4 Try.underlying102 hi0 hz0 hz1 hz2 rfl (by decide) _ i (WRow F i) rfl o2 ⟨wr.heap.size, 0, none⟩ 1 1 ([Value.int .u8 ((z0.toNat : Nat) : Int), .int .u8 ((z1.toNat : Nat) : Int), .int .u8 ((z2.toNat : Nat) : Int), .int .u8 ((z3.toNat : Nat) : Int)] : List Value) rfl rfl (news_blk B21) (by simp [Value.oneCell', bval]) (by decide) ?c3 ?c4 ?c5 (wr.heap.size + 1) (by simp) ?_))
                case c3 => unfold maxLen; omega
                case c4 => omega
                case c5 => first | omega | (simp; omega)
                intro gg cc W7 ho7 hg7 hl7 hlt7
                have HB7 : Below w.heap.size w W7 := (HB.alloc HBs _).grown hg7 (by simp; omega) (fun q hq => (ho.lt q hq).1)
                clear o2 hg7 hl7 hlt7 ho HB HBs B21
                have ho7' : W7.ownsRow w.heap.size 125 4 (.slice (some ⟨gg, 0, none⟩) (i + 1) cc) (i + 1) (WRow F (i + 1)) := by rw [HSN2.out]; exact ho7
                clear ho7
                go_wp2_with fail
                go_roundg g
                case rel => exact ⟨i + 1, by simp, by have := HI.out; omega, by omega, rfl, ho7', HB7⟩
                case measure => omega
              | succ g2 =>
                have hk4 : (k : Int) < 4 := by omega
                have hk4n : k < 4 := by omega
                have F2 := FI.step hk4n
                have hx := HT4G.out k hk4n
                obtain ⟨v, hv⟩ : ∃ v, t4.getD k 0 = v := ⟨_, rfl⟩
                obtain ⟨p, hp⟩ : ∃ v, F.getD (4 * (i - 4) + k) 0 = v := ⟨_, rfl⟩
                obtain ⟨q, hq⟩ : ∃ v, tl.getD k 0 = v := ⟨_, rfl⟩
                have c1 : wr.cell? ⟨g3, id * 4 + k, none⟩ = some (.int .u8 ((p.toNat : Nat) : Int)) := by
                  rw [← hp, ← HC.out wr HW (4 * (i - 4) + k) (by omega), HID.out, Nat.mul_comm id 4]
                have c2 := TB.cell k
                rw [bcells_get tl k (by rw [HTLL.out]; exact hk4n), hq] at c2
                rw [hv, hp, hq] at hx
                rw [hv] at F2
                have e1 := sum_xor8 p q
                rw [← hx] at e1
                have c3' : wr.cell? ⟨nb, k, none⟩ = _ := NB.cell k
                rw [bcells_get x k (by rw [FI.len]; exact hk4n)] at c3'
                have hnbl := NB.lt
                have HF2 := Lib.hid F2; have HK2 := Lib.hid hk2
                clear hx hv hp hq F2 FI hk2
                go_wp2_with fail
                refine wp_region_gr_tail 13 (by kernel_rfl) (by kernel_rfl) ?_
                simp only [List.take_succ_cons, List.take_zero, List.drop_succ_cons, List.drop_zero]
                repeat (first
                  | go_big_quiet_skip
                  | ((refine BigFrame.wpQuiet_want rfl (fun K hK => quiet_mk ?_)); apply Exists.intro; refine ⟨fun wq hq => ?_, hK _ ?_⟩
                     · have f0 := hq.cell c1; have f1 := hq.cell c2; go_simp; (try simp only [↓IntWalk.iteOmega]); (try go_bits)
                       first | done | rfl | exact ⟨rfl, rfl⟩ | exact ⟨trivial, rfl⟩
                     clear hK K; (try simp only [Act.put, List.setIfInBounds_toArray, List.set_cons_zero, List.set_cons_succ])))
                refine wpQuiet_nil ?_
                intro W10 hw10
                have c4 := hw10.cell c3'
                have N10 := NB.gr hw10
                have f4 := N10.frozen k
                have HW10 : Below tb _ W10 := Below.thn HW hw10.out (by omega)
                have N11 := N10.set (o := k) (v := .int .u8 ((v.toNat : Nat) : Int))
                rw [bcells_set] at N11
                have T11 := (TB.gr hw10).set_ne (a := ⟨nb, k, none⟩) (v := .int .u8 ((v.toNat : Nat) : Int)) (by show tb ≠ nb; omega)
                have HW11 := HW10.setCell (p := ⟨nb, k, none⟩) (by show tb ≤ nb; omega) (.int .u8 ((v.toNat : Nat) : Int))
                clear HW TB NB c1 c2 c3' e1 hw10 N10 HW10 hnbl
                go_wp2_with fail
                go_roundg g2
                case rel => exact ⟨k + 1, _, by have := HK2.out; omega, by simp, HW11, T11, N11, HF2.out⟩
                case measure => omega
          · have hmi : ¬ (i : Int) % 4 = 0 := by omega
            have hir : (i - 1) / 4 = (i + 1 - 1) / 4 := by omega
            rw [hir]
            have hnew : ∀ k, k < 4 → F.getD (4 * i + k) 0 = F.getD (4 * (i - 4) + k) 0 ^^^ [x0, x1, x2, x3].getD k 0 := fun k hk4 => by
              rw [HRS.out i k hi4 hin hm hk4, HIM.out]
              congr 1
              obtain ⟨g0, g1, g2, g3'⟩ := HX.out
              obtain rfl | rfl | rfl | rfl : k = 0 ∨ k = 1 ∨ k = 2 ∨ k = 3 := by omega
              · exact g0
              · exact g1
              · exact g2
              · exact g3'
            have HNEW := Lib.hid hnew
            clear hm hir hnew
            have hnl : tb < W2.heap.size := T2.lt
            go_wp2_with fail
            refine wp_absQ (fun W => Below tb wr W ∧ Blk W tb (bcells [x0, x1, x2, x3]) 125 ∧ Blk W W2.heap.size (bcells [0, 0, 0, 0]) 125) ⟨by (repeat (first | (with_reducible assumption) | (with_reducible exact Below.refl _ _) | with_reducible apply bl_drewN | with_reducible apply Below.drew | (with_reducible apply bl_alloc; focus (first | (simp; done) | (simp; omega) | omega)) | (with_reducible apply bl_set; focus (first | (simp; done) | (simp; omega) | omega)))), Blk.alloc T2, Blk.new' rfl⟩ (fun W6 V6 => ?_)
            obtain ⟨nb, hnb⟩ : ∃ b, W2.heap.size = b := ⟨_, rfl⟩
            rw [hnb] at V6 hnl ⊢
            clear hnb T2 HW2
            obtain ⟨HW6, T6, N6⟩ := V6
            obtain ⟨t4, ht4⟩ : ∃ t : List UInt8, t = [F.getD (4 * i) 0, F.getD (4 * i + 1) 0, F.getD (4 * i + 2) 0, F.getD (4 * i + 3) 0] := ⟨_, rfl⟩
            have ht4l : t4.length = 4 := by rw [ht4]; rfl
            have ht4g : ∀ k, k < 4 → t4.getD k 0 = F.getD (4 * (i - 4) + k) 0 ^^^ [x0, x1, x2, x3].getD k 0 := fun k hk4 => by
              rw [← HNEW.out k hk4, ht4]
              obtain rfl | rfl | rfl | rfl : k = 0 ∨ k = 1 ∨ k = 2 ∨ k = 3 := by omega
              · rfl
              · rfl
              · rfl
              · rfl
            have hsn := wrow_snoc F i (by have := HFL.out; omega)
            obtain ⟨tl, htl⟩ : ∃ t : List UInt8, [x0, x1, x2, x3] = t := ⟨_, rfl⟩
            have htll : tl.length = 4 := by rw [← htl]; rfl
            rw [htl] at T6 ht4g
            have HT4 := Lib.hid ht4; have HT4L := Lib.hid ht4l; have HT4G := Lib.hid ht4g; have HSN := Lib.hid hsn; have HTLL := Lib.hid htll
            clear ht4 ht4l ht4g hsn htl htll
            obtain ⟨id, hid⟩ : ∃ j, i - 4 = j := ⟨_, rfl⟩
            have hid1 : (i : Int) - 4 = (id : Int) := by omega
            have hid2 : (id : Int) < (i : Int) := by omega
            have HID := Lib.hid hid
            clear hid
            go_loopg [11] 4 (fun g2 t11 wx => ∃ (k : Nat) (x : List UInt8), k + g2 = 4 ∧ t11 = .int .i64 (k : Int) ∧ Below tb wr wx ∧ Blk wx tb (bcells tl) 125 ∧ Blk wx nb (bcells x) 125 ∧ Fill t4 [0, 0, 0, 0] x 4 k)
            case atStart => exact ⟨0, [0, 0, 0, 0], rfl, rfl, HW6, T6, N6, .start rfl⟩
            case round =>
              clear HW6 T6 N6
              obtain ⟨k, x, hk2, rfl, HW, TB, NB, FI⟩ := hrel
              cases gk with
              | zero =>
                obtain rfl : k = 4 := by omega
                clear hk2
                have hx4 := FI.all HT4L.out
                rw [hx4, HT4.out] at NB
                clear FI hx4
                obtain ⟨z0, hz0'⟩ : ∃ z, F.getD (4 * i) 0 = z := ⟨_, rfl⟩
                obtain ⟨z1, hz1'⟩ : ∃ z, F.getD (4 * i + 1) 0 = z := ⟨_, rfl⟩
                obtain ⟨z2, hz2'⟩ : ∃ z, F.getD (4 * i + 2) 0 = z := ⟨_, rfl⟩
                obtain ⟨z3, hz3'⟩ : ∃ z, F.getD (4 * i + 3) 0 = z := ⟨_, rfl⟩
                have hsn := HSN.out
                rw [hz0', hz1', hz2', hz3'] at NB hsn
                have HSN2 := Lib.hid hsn
                have ho := HOW.out wr HW
                have HB := HBE.out wr HW
                have HBs := HB.size
                have NB2 : Blk wr nb #[Value.int .u8 ((z0.toNat : Nat) : Int), .int .u8 ((z1.toNat : Nat) : Int), .int .u8 ((z2.toNat : Nat) : Int), .int .u8 ((z3.toNat : Nat) : Int)] 125 := NB.conv rfl
                clear NB
                have B21 : Blk (wr.alloc (.cells #[Value.int .u8 ((z0.toNat : Nat) : Int), .int .u8 ((z1.toNat : Nat) : Int), .int .u8 ((z2.toNat : Nat) : Int), .int .u8 ((z3.toNat : Nat) : Int)] 125)) wr.heap.size ([Value.int .u8 ((z0.toNat : Nat) : Int), .int .u8 ((z1.toNat : Nat) : Int), .int .u8 ((z2.toNat : Nat) : Int), .int .u8 ((z3.toNat : Nat) : Int)] : List Value).toArray 125 := Blk.new _ _ _
                have o2 := ho.alloc (.cells #[Value.int .u8 ((z0.toNat : Nat) : Int), .int .u8 ((z1.toNat : Nat) : Int), .int .u8 ((z2.toNat : Nat) : Int), .int .u8 ((z3.toNat : Nat) : Int)] 125)
                clear hz0' hz1' hz2' hz3' hsn HSN
                go_wp2_with (first | (refine wpList_load_row rfl 125 _ rfl nb rfl 125 _ (0, 0) _ NB2.out Try.underlying125 rfl (by kernel_rfl) ?_) | (at_builtin; refine wpList_append_lies _ rfl _ _ 102 rfl w.heap.size 125 i0 _ 4 4 Try.underlying102 hi0 hz0 hz1 hz2 rfl (by decide) _ i (WRow F i) rfl o2 ⟨wr.heap.size, 0, none⟩ 1 1 ([Value.int .u8 ((z0.toNat : Nat) : Int), .int .u8 ((z1.toNat : Nat) : Int), .int .u8 ((z2.toNat : Nat) : Int), .int .u8 ((z3.toNat : Nat) : Int)] : List Value) rfl rfl (news_blk B21) (by simp [Value.oneCell', bval]) (by decide) ?c3 ?c4 ?c5 (wr.heap.size + 1) (by simp) ?_))
                case c3 => unfold maxLen; omega
                case c4 => omega
                case c5 => first | omega | (simp; omega)
                intro gg cc W7 ho7 hg7 hl7 hlt7
                have HB7 : Below w.heap.size w W7 := (HB.alloc HBs _).grown hg7 (by simp; omega) (fun q hq => (ho.lt q hq).1)
                clear o2 hg7 hl7 hlt7 ho HB HBs B21
                have ho7' : W7.ownsRow w.heap.size 125 4 (.slice (some ⟨gg, 0, none⟩) (i + 1) cc) (i + 1) (WRow F (i + 1)) := by rw [HSN2.out]; exact ho7
                clear ho7
                go_wp2_with fail
                go_roundg g
                case rel => exact ⟨i + 1, by simp, by have := HI.out; omega, by omega, rfl, ho7', HB7⟩
                case measure => omega
              | succ g2 =>
                have hk4 : (k : Int) < 4 := by omega
                have hk4n : k < 4 := by omega
                have F2 := FI.step hk4n
                have hx := HT4G.out k hk4n
                obtain ⟨v, hv⟩ : ∃ v, t4.getD k 0 = v := ⟨_, rfl⟩
                obtain ⟨p, hp⟩ : ∃ v, F.getD (4 * (i - 4) + k) 0 = v := ⟨_, rfl⟩
                obtain ⟨q, hq⟩ : ∃ v, tl.getD k 0 = v := ⟨_, rfl⟩
                have c1 : wr.cell? ⟨g3, id * 4 + k, none⟩ = some (.int .u8 ((p.toNat : Nat) : Int)) := by
                  rw [← hp, ← HC.out wr HW (4 * (i - 4) + k) (by omega), HID.out, Nat.mul_comm id 4]
                have c2 := TB.cell k
                rw [bcells_get tl k (by rw [HTLL.out]; exact hk4n), hq] at c2
                rw [hv, hp, hq] at hx
                rw [hv] at F2
                have e1 := sum_xor8 p q
                rw [← hx] at e1
                have c3' : wr.cell? ⟨nb, k, none⟩ = _ := NB.cell k
                rw [bcells_get x k (by rw [FI.len]; exact hk4n)] at c3'
                have hnbl := NB.lt
                have HF2 := Lib.hid F2; have HK2 := Lib.hid hk2
                clear hx hv hp hq F2 FI hk2
                go_wp2_with fail
                refine wp_region_gr_tail 13 (by kernel_rfl) (by kernel_rfl) ?_
                simp only [List.take_succ_cons, List.take_zero, List.drop_succ_cons, List.drop_zero]
                repeat (first
                  | go_big_quiet_skip
                  | ((refine BigFrame.wpQuiet_want rfl (fun K hK => quiet_mk ?_)); apply Exists.intro; refine ⟨fun wq hq => ?_, hK _ ?_⟩
                     · have f0 := hq.cell c1; have f1 := hq.cell c2; go_simp; (try simp only [↓IntWalk.iteOmega]); (try go_bits)
                       first | done | rfl | exact ⟨rfl, rfl⟩ | exact ⟨trivial, rfl⟩
                     clear hK K; (try simp only [Act.put, List.setIfInBounds_toArray, List.set_cons_zero, List.set_cons_succ])))
                refine wpQuiet_nil ?_
                intro W10 hw10
                have c4 := hw10.cell c3'
                have N10 := NB.gr hw10
                have f4 := N10.frozen k
                have HW10 : Below tb _ W10 := Below.thn HW hw10.out (by omega)
                have N11 := N10.set (o := k) (v := .int .u8 ((v.toNat : Nat) : Int))
                rw [bcells_set] at N11
                have T11 := (TB.gr hw10).set_ne (a := ⟨nb, k, none⟩) (v := .int .u8 ((v.toNat : Nat) : Int)) (by show tb ≠ nb; omega)
                have HW11 := HW10.setCell (p := ⟨nb, k, none⟩) (by show tb ≤ nb; omega) (.int .u8 ((v.toNat : Nat) : Int))
                clear HW TB NB c1 c2 c3' e1 hw10 N10 HW10 hnbl
                go_wp2_with fail
                go_roundg g2
                case rel => exact ⟨k + 1, _, by have := HK2.out; omega, by simp, HW11, T11, N11, HF2.out⟩
                case measure => omega
    | succ g =>
      have hi4 : (i : Int) < 4 := by omega
      have hin : i < 4 := by omega
      obtain ⟨p, hp⟩ : ∃ p, 4 * i = p := ⟨_, rfl⟩
      have hpi : (4 : Int) * (i : Int) = (p : Int) := by omega
      have q0 : p < key.size := by omega
      have b0 := ba_idx key p q0 _ (by rw [hkl])
      have s0 : (p : Int) < (key.size : Int) := by omega
      obtain ⟨p1, hp1⟩ : ∃ q, p + 1 = q := ⟨_, rfl⟩
      have hpi1 : (p : Int) + 1 = (p1 : Int) := by omega
      have q1 : p1 < key.size := by omega
      have b1 := ba_idx key p1 q1 _ (by rw [hkl])
      have s1 : (p1 : Int) < (key.size : Int) := by omega
      obtain ⟨p2, hp2⟩ : ∃ q, p + 2 = q := ⟨_, rfl⟩
      have hpi2 : (p : Int) + 2 = (p2 : Int) := by omega
      have q2 : p2 < key.size := by omega
      have b2 := ba_idx key p2 q2 _ (by rw [hkl])
      have s2 : (p2 : Int) < (key.size : Int) := by omega
      obtain ⟨p3, hp3⟩ : ∃ q, p + 3 = q := ⟨_, rfl⟩
      have hpi3 : (p : Int) + 3 = (p3 : Int) := by omega
      have q3 : p3 < key.size := by omega
      have b3 := ba_idx key p3 q3 _ (by rw [hkl])
      have s3 : (p3 : Int) < (key.size : Int) := by omega
      have hsn := wrow_snoc F i (by have := HFL.out; omega)
      rw [HO.out i 1 hin (by decide), HO.out i 2 hin (by decide), HO.out i 3 hin (by decide), show F.getD (4 * i) 0 = KL.getD (4 * i) 0 from HO.out i 0 hin (by decide), hp, hp1, hp2, hp3] at hsn
      obtain ⟨x0, h0⟩ : ∃ x, KL.getD p 0 = x := ⟨_, rfl⟩
      obtain ⟨x1, h1⟩ : ∃ x, KL.getD p1 0 = x := ⟨_, rfl⟩
      obtain ⟨x2, h2⟩ : ∃ x, KL.getD p2 0 = x := ⟨_, rfl⟩
      obtain ⟨x3, h3⟩ : ∃ x, KL.getD p3 0 = x := ⟨_, rfl⟩
      rw [h0, h1, h2, h3] at hsn
      rw [h0] at b0; rw [h1] at b1; rw [h2] at b2; rw [h3] at b3
      have HSN := Lib.hid hsn; have HI := Lib.hid hi
      clear h0 h1 h2 h3 hp hp1 hp2 hp3 hsn hi
      go_wp2_with fail
      refine wp_region_typed 22 (fun k => match k with  | _ => []) (fun k => match k with  | _ => false) (fun k => match k with | 21 => some ⟨(Nat), (0), (fun b => .slice (some ⟨b, 0, none⟩) 1 1), (fun b w => wr.heap.size ≤ b ∧ Blk w b #[.int .u8 ((x0.toNat : Nat) : Int), .int .u8 ((x1.toNat : Nat) : Int), .int .u8 ((x2.toNat : Nat) : Int), .int .u8 ((x3.toNat : Nat) : Int)] 125), (fun b w w' h hb => ⟨h.1, h.2.below hb⟩)⟩ | _ => none) (by kernel_rfl) (by kernel_rfl) (by intro d0 v0 c0 a0 w0 h0; first | (cases d0 <;> exact h0) | exact hP _ _ _ _ _ h0) ?_
      rw [show List.range 22 = [0, 1, 2, 3, 4, 5, 6, 7, 8, 9, 10, 11, 12, 13, 14, 15, 16, 17, 18, 19, 20, 21] from rfl]
      first
        | (refine ty_skip rfl rfl ?_; (try simp only [Act.put, List.setIfInBounds_toArray, List.set_cons_zero, List.set_cons_succ]))
        | (refine ty_pure rfl rfl rfl rfl ?_; apply Exists.intro; refine ⟨fun wq hq hk => ?_, ?_⟩
           · simp only [pureAt]; go_simp; (try simp only [↓IntWalk.iteOmega]); (try go_bits); (try simp only [pureUpon]); (first | done | exact ⟨rfl, rfl⟩ | exact ⟨trivial, rfl⟩ | rfl)
           (try simp only [Act.put, List.setIfInBounds_toArray, List.set_cons_zero, List.set_cons_succ]))
      first
        | (refine ty_skip rfl rfl ?_; (try simp only [Act.put, List.setIfInBounds_toArray, List.set_cons_zero, List.set_cons_succ]))
        | (refine ty_pure rfl rfl rfl rfl ?_; apply Exists.intro; refine ⟨fun wq hq hk => ?_, ?_⟩
           · simp only [pureAt]; go_simp; (try simp only [↓IntWalk.iteOmega]); (try go_bits); (try simp only [pureUpon]); (first | done | exact ⟨rfl, rfl⟩ | exact ⟨trivial, rfl⟩ | rfl)
           (try simp only [Act.put, List.setIfInBounds_toArray, List.set_cons_zero, List.set_cons_succ]))
      first
        | (refine ty_skip rfl rfl ?_; (try simp only [Act.put, List.setIfInBounds_toArray, List.set_cons_zero, List.set_cons_succ]))
        | (refine ty_pure rfl rfl rfl rfl ?_; apply Exists.intro; refine ⟨fun wq hq hk => ?_, ?_⟩
           · simp only [pureAt]; go_simp; (try simp only [↓IntWalk.iteOmega]); (try go_bits); (try simp only [pureUpon]); (first | done | exact ⟨rfl, rfl⟩ | exact ⟨trivial, rfl⟩ | rfl)
           (try simp only [Act.put, List.setIfInBounds_toArray, List.set_cons_zero, List.set_cons_succ]))
      first
        | (refine ty_skip rfl rfl ?_; (try simp only [Act.put, List.setIfInBounds_toArray, List.set_cons_zero, List.set_cons_succ]))
        | (refine ty_pure rfl rfl rfl rfl ?_; apply Exists.intro; refine ⟨fun wq hq hk => ?_, ?_⟩
           · simp only [pureAt]; go_simp; (try simp only [↓IntWalk.iteOmega]); (try go_bits); (try simp only [pureUpon]); (first | done | exact ⟨rfl, rfl⟩ | exact ⟨trivial, rfl⟩ | rfl)
           (try simp only [Act.put, List.setIfInBounds_toArray, List.set_cons_zero, List.set_cons_succ]))
      first
        | (refine ty_skip rfl rfl ?_; (try simp only [Act.put, List.setIfInBounds_toArray, List.set_cons_zero, List.set_cons_succ]))
        | (refine ty_pure rfl rfl rfl rfl ?_; apply Exists.intro; refine ⟨fun wq hq hk => ?_, ?_⟩
           · simp only [pureAt]; go_simp; (try simp only [↓IntWalk.iteOmega]); (try go_bits); (try simp only [pureUpon]); (first | done | exact ⟨rfl, rfl⟩ | exact ⟨trivial, rfl⟩ | rfl)
           (try simp only [Act.put, List.setIfInBounds_toArray, List.set_cons_zero, List.set_cons_succ]))
      first
        | (refine ty_skip rfl rfl ?_; (try simp only [Act.put, List.setIfInBounds_toArray, List.set_cons_zero, List.set_cons_succ]))
        | (refine ty_pure rfl rfl rfl rfl ?_; apply Exists.intro; refine ⟨fun wq hq hk => ?_, ?_⟩
           · simp only [pureAt]; go_simp; (try simp only [↓IntWalk.iteOmega]); (try go_bits); (try simp only [pureUpon]); (first | done | exact ⟨rfl, rfl⟩ | exact ⟨trivial, rfl⟩ | rfl)
           (try simp only [Act.put, List.setIfInBounds_toArray, List.set_cons_zero, List.set_cons_succ]))
      first
        | (refine ty_skip rfl rfl ?_; (try simp only [Act.put, List.setIfInBounds_toArray, List.set_cons_zero, List.set_cons_succ]))
        | (refine ty_pure rfl rfl rfl rfl ?_; apply Exists.intro; refine ⟨fun wq hq hk => ?_, ?_⟩
           · simp only [pureAt]; go_simp; (try simp only [↓IntWalk.iteOmega]); (try go_bits); (try simp only [pureUpon]); (first | done | exact ⟨rfl, rfl⟩ | exact ⟨trivial, rfl⟩ | rfl)
           (try simp only [Act.put, List.setIfInBounds_toArray, List.set_cons_zero, List.set_cons_succ]))
      first
        | (refine ty_skip rfl rfl ?_; (try simp only [Act.put, List.setIfInBounds_toArray, List.set_cons_zero, List.set_cons_succ]))
        | (refine ty_pure rfl rfl rfl rfl ?_; apply Exists.intro; refine ⟨fun wq hq hk => ?_, ?_⟩
           · simp only [pureAt]; go_simp; (try simp only [↓IntWalk.iteOmega]); (try go_bits); (try simp only [pureUpon]); (first | done | exact ⟨rfl, rfl⟩ | exact ⟨trivial, rfl⟩ | rfl)
           (try simp only [Act.put, List.setIfInBounds_toArray, List.set_cons_zero, List.set_cons_succ]))
      first
        | (refine ty_skip rfl rfl ?_; (try simp only [Act.put, List.setIfInBounds_toArray, List.set_cons_zero, List.set_cons_succ]))
        | (refine ty_pure rfl rfl rfl rfl ?_; apply Exists.intro; refine ⟨fun wq hq hk => ?_, ?_⟩
           · simp only [pureAt]; go_simp; (try simp only [↓IntWalk.iteOmega]); (try go_bits); (try simp only [pureUpon]); (first | done | exact ⟨rfl, rfl⟩ | exact ⟨trivial, rfl⟩ | rfl)
           (try simp only [Act.put, List.setIfInBounds_toArray, List.set_cons_zero, List.set_cons_succ]))
      first
        | (refine ty_skip rfl rfl ?_; (try simp only [Act.put, List.setIfInBounds_toArray, List.set_cons_zero, List.set_cons_succ]))
        | (refine ty_pure rfl rfl rfl rfl ?_; apply Exists.intro; refine ⟨fun wq hq hk => ?_, ?_⟩
           · simp only [pureAt]; go_simp; (try simp only [↓IntWalk.iteOmega]); (try go_bits); (try simp only [pureUpon]); (first | done | exact ⟨rfl, rfl⟩ | exact ⟨trivial, rfl⟩ | rfl)
           (try simp only [Act.put, List.setIfInBounds_toArray, List.set_cons_zero, List.set_cons_succ]))
      first
        | (refine ty_skip rfl rfl ?_; (try simp only [Act.put, List.setIfInBounds_toArray, List.set_cons_zero, List.set_cons_succ]))
        | (refine ty_pure rfl rfl rfl rfl ?_; apply Exists.intro; refine ⟨fun wq hq hk => ?_, ?_⟩
           · simp only [pureAt]; go_simp; (try simp only [↓IntWalk.iteOmega]); (try go_bits); (try simp only [pureUpon]); (first | done | exact ⟨rfl, rfl⟩ | exact ⟨trivial, rfl⟩ | rfl)
           (try simp only [Act.put, List.setIfInBounds_toArray, List.set_cons_zero, List.set_cons_succ]))
      first
        | (refine ty_skip rfl rfl ?_; (try simp only [Act.put, List.setIfInBounds_toArray, List.set_cons_zero, List.set_cons_succ]))
        | (refine ty_pure rfl rfl rfl rfl ?_; apply Exists.intro; refine ⟨fun wq hq hk => ?_, ?_⟩
           · simp only [pureAt]; go_simp; (try simp only [↓IntWalk.iteOmega]); (try go_bits); (try simp only [pureUpon]); (first | done | exact ⟨rfl, rfl⟩ | exact ⟨trivial, rfl⟩ | rfl)
           (try simp only [Act.put, List.setIfInBounds_toArray, List.set_cons_zero, List.set_cons_succ]))
      first
        | (refine ty_skip rfl rfl ?_; (try simp only [Act.put, List.setIfInBounds_toArray, List.set_cons_zero, List.set_cons_succ]))
        | (refine ty_pure rfl rfl rfl rfl ?_; apply Exists.intro; refine ⟨fun wq hq hk => ?_, ?_⟩
           · simp only [pureAt]; go_simp; (try simp only [↓IntWalk.iteOmega]); (try go_bits); (try simp only [pureUpon]); (first | done | exact ⟨rfl, rfl⟩ | exact ⟨trivial, rfl⟩ | rfl)
           (try simp only [Act.put, List.setIfInBounds_toArray, List.set_cons_zero, List.set_cons_succ]))
      first
        | (refine ty_skip rfl rfl ?_; (try simp only [Act.put, List.setIfInBounds_toArray, List.set_cons_zero, List.set_cons_succ]))
        | (refine ty_pure rfl rfl rfl rfl ?_; apply Exists.intro; refine ⟨fun wq hq hk => ?_, ?_⟩
           · simp only [pureAt]; go_simp; (try simp only [↓IntWalk.iteOmega]); (try go_bits); (try simp only [pureUpon]); (first | done | exact ⟨rfl, rfl⟩ | exact ⟨trivial, rfl⟩ | rfl)
           (try simp only [Act.put, List.setIfInBounds_toArray, List.set_cons_zero, List.set_cons_succ]))
      first
        | (refine ty_skip rfl rfl ?_; (try simp only [Act.put, List.setIfInBounds_toArray, List.set_cons_zero, List.set_cons_succ]))
        | (refine ty_pure rfl rfl rfl rfl ?_; apply Exists.intro; refine ⟨fun wq hq hk => ?_, ?_⟩
           · simp only [pureAt]; go_simp; (try simp only [↓IntWalk.iteOmega]); (try go_bits); (try simp only [pureUpon]); (first | done | exact ⟨rfl, rfl⟩ | exact ⟨trivial, rfl⟩ | rfl)
           (try simp only [Act.put, List.setIfInBounds_toArray, List.set_cons_zero, List.set_cons_succ]))
      first
        | (refine ty_skip rfl rfl ?_; (try simp only [Act.put, List.setIfInBounds_toArray, List.set_cons_zero, List.set_cons_succ]))
        | (refine ty_pure rfl rfl rfl rfl ?_; apply Exists.intro; refine ⟨fun wq hq hk => ?_, ?_⟩
           · simp only [pureAt]; go_simp; (try simp only [↓IntWalk.iteOmega]); (try go_bits); (try simp only [pureUpon]); (first | done | exact ⟨rfl, rfl⟩ | exact ⟨trivial, rfl⟩ | rfl)
           (try simp only [Act.put, List.setIfInBounds_toArray, List.set_cons_zero, List.set_cons_succ]))
      first
        | (refine ty_skip rfl rfl ?_; (try simp only [Act.put, List.setIfInBounds_toArray, List.set_cons_zero, List.set_cons_succ]))
        | (refine ty_pure rfl rfl rfl rfl ?_; apply Exists.intro; refine ⟨fun wq hq hk => ?_, ?_⟩
           · simp only [pureAt]; go_simp; (try simp only [↓IntWalk.iteOmega]); (try go_bits); (try simp only [pureUpon]); (first | done | exact ⟨rfl, rfl⟩ | exact ⟨trivial, rfl⟩ | rfl)
           (try simp only [Act.put, List.setIfInBounds_toArray, List.set_cons_zero, List.set_cons_succ]))
      first
        | (refine ty_skip rfl rfl ?_; (try simp only [Act.put, List.setIfInBounds_toArray, List.set_cons_zero, List.set_cons_succ]))
        | (refine ty_pure rfl rfl rfl rfl ?_; apply Exists.intro; refine ⟨fun wq hq hk => ?_, ?_⟩
           · simp only [pureAt]; go_simp; (try simp only [↓IntWalk.iteOmega]); (try go_bits); (try simp only [pureUpon]); (first | done | exact ⟨rfl, rfl⟩ | exact ⟨trivial, rfl⟩ | rfl)
           (try simp only [Act.put, List.setIfInBounds_toArray, List.set_cons_zero, List.set_cons_succ]))
      first
        | (refine ty_skip rfl rfl ?_; (try simp only [Act.put, List.setIfInBounds_toArray, List.set_cons_zero, List.set_cons_succ]))
        | (refine ty_pure rfl rfl rfl rfl ?_; apply Exists.intro; refine ⟨fun wq hq hk => ?_, ?_⟩
           · simp only [pureAt]; go_simp; (try simp only [↓IntWalk.iteOmega]); (try go_bits); (try simp only [pureUpon]); (first | done | exact ⟨rfl, rfl⟩ | exact ⟨trivial, rfl⟩ | rfl)
           (try simp only [Act.put, List.setIfInBounds_toArray, List.set_cons_zero, List.set_cons_succ]))
      first
        | (refine ty_skip rfl rfl ?_; (try simp only [Act.put, List.setIfInBounds_toArray, List.set_cons_zero, List.set_cons_succ]))
        | (refine ty_pure rfl rfl rfl rfl ?_; apply Exists.intro; refine ⟨fun wq hq hk => ?_, ?_⟩
           · simp only [pureAt]; go_simp; (try simp only [↓IntWalk.iteOmega]); (try go_bits); (try simp only [pureUpon]); (first | done | exact ⟨rfl, rfl⟩ | exact ⟨trivial, rfl⟩ | rfl)
           (try simp only [Act.put, List.setIfInBounds_toArray, List.set_cons_zero, List.set_cons_succ]))
      first
        | (refine ty_skip rfl rfl ?_; (try simp only [Act.put, List.setIfInBounds_toArray, List.set_cons_zero, List.set_cons_succ]))
        | (refine ty_pure rfl rfl rfl rfl ?_; apply Exists.intro; refine ⟨fun wq hq hk => ?_, ?_⟩
           · simp only [pureAt]; go_simp; (try simp only [↓IntWalk.iteOmega]); (try go_bits); (try simp only [pureUpon]); (first | done | exact ⟨rfl, rfl⟩ | exact ⟨trivial, rfl⟩ | rfl)
           (try simp only [Act.put, List.setIfInBounds_toArray, List.set_cons_zero, List.set_cons_succ]))
      refine ty_rel rfl rfl _ rfl rfl (fun wq hq hk => ?_) ?_
      · simp only [relAt]; go_simp; (try simp only [relUpon]); exact .mk ((Below.refl _ _).alloc (Nat.le_refl _) _) wq.heap.size rfl ⟨hq.size, Blk.new wq _ _⟩
      rintro (b21 : Nat)
      (try simp only [Act.put, List.setIfInBounds_toArray, List.set_cons_zero, List.set_cons_succ])
      refine ty_nil ?_
      simp only [List.drop_succ_cons, List.drop_zero]
      intro W2 hw2 hΓ
      obtain ⟨hb21, B21⟩ := hΓ _ (.head _)
      have ho2 := own_below ho hw2.out
      have HB2 := Below.thn HB hw2.out HBs
      have HB2s := HB2.size
      clear hΓ hw2 ho HB HBs
      go_wp2_with (at_builtin; refine wpList_append_lies _ rfl _ _ 102 rfl w.heap.size 125 i0 _ 4 4 Try.underlying102 hi0 hz0 hz1 hz2 rfl (by decide) _ i (WRow F i) rfl ho2 ⟨b21, 0, none⟩ 1 1 [.int .u8 ((x0.toNat : Nat) : Int), .int .u8 ((x1.toNat : Nat) : Int), .int .u8 ((x2.toNat : Nat) : Int), .int .u8 ((x3.toNat : Nat) : Int)] rfl rfl (news_blk B21) (by simp [Value.oneCell']) (by decide) ?c3 ?c4 ?c5 (W2.heap.size) rfl ?_)
      case c3 => unfold maxLen; omega
      case c4 => omega
      case c5 => first | omega | (simp; omega)
      intro gg cc W3 ho3 hg3 hl3 hlt3
      have HB3 : Below w.heap.size w W3 := HB2.grown hg3 (by omega) (fun q hq => (ho2.lt q hq).1)
      clear hg3 hl3 hlt3 ho2 HB2 B21
      have ho3' : W3.ownsRow w.heap.size 125 4 (.slice (some ⟨gg, 0, none⟩) (i + 1) cc) (i + 1) (WRow F (i + 1)) := by rw [HSN.out]; exact ho3
      clear ho3
      go_wp2_with fail
      go_roundg g
      case rel => exact ⟨i + 1, by simp, by have := HI.out; omega, ho3', HB3⟩
      case measure => omega
end Go.Proofs.Ytkblkdojmfgneaa
