/- PoolTurns: the walk. -/
import Derived.Test.YtkfgbaieghlhkaaPoolTurnsC
namespace Go.Proofs.Ytkfgbaieghlhkaa
open Go.RowKit

structure PAct where
  d : Nat
  i : Int
  t : ByteArray
  deriving Inhabited
structure PActsAt (w : World) (b off len : Nat) (l : List PAct) : Prop where
  lt : 0 < len → b < w.heap.size
  c0 : ∀ j, j < len → w.cell? ⟨b, off + j * 3, none⟩ = some (.int .u8 (l.getD j default).d)
  c1 : ∀ j, j < len → w.cell? ⟨b, off + j * 3 + 1, none⟩ = some (.int .i64 (l.getD j default).i)
  c2 : ∀ j, j < len → w.cell? ⟨b, off + j * 3 + 2, none⟩ = some (.string (l.getD j default).t)
  small : ∀ j, j < len → (l.getD j default).d ≤ 255
theorem PActsAt.below {w w' : World} {b off len : Nat} {l : List PAct} (h : PActsAt w b off len l) (g : Below w.heap.size w w') : PActsAt w' b off len l :=
  ⟨fun h0 => Nat.lt_of_lt_of_le (h.lt h0) g.size, fun j hj => (g.cell (p := ⟨b, _, none⟩) (h.lt (by omega))).trans (h.c0 j hj), fun j hj => (g.cell (p := ⟨b, _, none⟩) (h.lt (by omega))).trans (h.c1 j hj),
    fun j hj => (g.cell (p := ⟨b, _, none⟩) (h.lt (by omega))).trans (h.c2 j hj), h.small⟩
theorem fresh_ref (n : Nat) (w : World) (hn : n ≤ 256) :
    ∃ C, RefAt (w.alloc (.cells C 63)) w.heap.size n (fresh n) ∧ (Instr.makeSlice 58 (.int .i64 (n : Int)) (.int .i64 (n : Int))).run Try.prog w = .ok (.slice (some ⟨w.heap.size, 0, none⟩) n n) (w.alloc (.cells C 63)) := by
  have info63 : (Try.prog.info? 63).map (fun i => (i.zero, i.size, i.bytes)) = some (some (.agg #[.bool false, .string ⟨#[]⟩]), 2, 24) := by kernel_rfl
  obtain ⟨i, hi, h0, h1, h2⟩ := info_parts info63
  have := run_make (P := Try.prog) w 58 63 i _ Try.underlying58 hi h0 .i64 .i64 n n (by omega) (Int.le_refl _) (by rw [h2]; omega) (by omega)
  rw [Int.toNat_natCast, h1] at this
  refine ⟨_, ?_, this⟩
  have hR := World.rowIs_alloc w (madeCells (Value.agg #[.bool false, .string ⟨#[]⟩]).cells (n * 2)) 63 (refF (fresh n)) (fun o ho => by
    rw [size_madeCells] at ho
    rw [made_get _ n 2 o rfl ho]
    unfold refF
    rw [fresh_get n _ (by omega)]
    rcases Nat.mod_two_eq_zero_or_one o with h | h <;> rw [h] <;> rfl)
  rw [size_madeCells] at hR
  exact hR

set_option maxHeartbeats 8000000 in
set_option maxRecDepth 20000 in
theorem turns_walk (n b off len cap : Nat) (ao : Option Addr) (acts : List PAct) (w : World) (h1 : 1 ≤ n) (h2 : n ≤ 256) (hl : len ≤ 80) (hao : 0 < len → ao = some ⟨b, off, none⟩) (hacts : PActsAt w b off len acts) :
    Calls Try.prog 7 #[.int .i64 n, .slice ao len cap] w fun e w' => e = .returned (.bool true) ∧ Below w.heap.size w w' := by
  have g1 : ¬ (n : Int) < 1 := by omega
  have g2 : ¬ (256 : Int) < n := by omega
  have g3 : ¬ (80 : Int) < len := by omega
  go_enter Try.func7, Try.ntmps7
  go_wp2_with fail
  refine (awake08 _).mono ?_
  rintro e w1 ⟨rfl, HB⟩
  have HBs := HB.size
  go_wp2_with fail
  refine (new_any n _ (by omega) (by omega)).mono ?_
  rintro e w2 ⟨pb, B, rfl, P, hpb, hB, hb⟩
  have HB2 := Below.thn HB hb HBs
  have HBs2 := HB2.size
  have hpb' : w.heap.size ≤ pb := by omega
  have hB' : w.heap.size ≤ B := by omega
  obtain ⟨C, R, hmk⟩ := fresh_ref n w2 h2
  have hlt1 := P.lt
  have hlt2 := P.hd.lt
  have P4 := P.below (Below.alloc (Below.refl _ _) (Nat.le_refl _) (.cells C 63))
  have HB4 := HB2.alloc HBs2 (.cells C 63)
  clear hb HB HBs hpb hB P HB2
  obtain ⟨w4, hw4⟩ : ∃ w4, w2.alloc (.cells C 63) = w4 := ⟨_, rfl⟩
  rw [hw4] at hmk R P4 HB4
  clear hw4
  obtain ⟨rb, hrb⟩ : ∃ rb, w2.heap.size = rb := ⟨_, rfl⟩
  rw [hrb] at hlt1 hlt2 HBs2 R hmk
  clear hrb
  have hRr := R.lt
  go_wp2_with fail
  go_loopg [8, 51] len (fun g t8 t51 wr => ∃ (k ev : Nat) (l : List Buf), t51 = .int .i64 k ∧ t8 = .int .u64 ev ∧ k + g = len ∧ ev ≤ k ∧ PoolAt wr pb B n l ev ∧ RefAt wr rb n l ∧ Below w.heap.size w wr)
  case atStart => exact ⟨0, 0, fresh n, rfl, rfl, by omega, Nat.le_refl _, P4, R, HB4⟩
  case round =>
    clear P4 R HB4 hmk hRr
    obtain ⟨k, ev, l, rfl, rfl, hk, hev, P, R, HB⟩ := hrel
    have HBs := HB.size
    have HK := Lib.hid hk
    cases gk with
    | zero =>
      have hk' : ¬ (k : Int) < len := by omega
      clear hk
      have HP := Lib.hid P
      have HR := Lib.hid R
      have hPn := P.most
      clear P R
      go_wp2_with fail
      go_loopg [243] n (fun g t243 wx => ∃ j : Nat, t243 = .int .i64 j ∧ j + g = n ∧ Below wr.heap.size wr wx)
      case atStart => exact ⟨0, rfl, by omega, Below.refl _ _⟩
      case round =>
        obtain ⟨j, rfl, hj, HX⟩ := hrel
        have HJ := Lib.hid hj
        have HXs := HX.size
        cases gk with
        | zero =>
          have hj' : ¬ (j : Int) < n := by omega
          clear hj
          go_wp2_with fail
          refine (raw_bad pb B n ev n l _ (HP.out.below HX) (Or.inr (Int.le_refl _))).mono ?_
          rintro e w5 ⟨rfl, hb⟩
          have HX5 := Below.thn HX hb HX.size
          clear hb
          go_wp2_with fail
          refine (raw_bad pb B n ev (-1) l _ (HP.out.below HX5) (Or.inl (by omega))).mono ?_
          rintro e w6 ⟨rfl, hb⟩
          have HX6 := Below.thn HX5 hb HX5.size
          go_wp2
          go_ret
          exact ⟨rfl, Below.thn HB HX6 HBs⟩
        | succ g2 =>
          have hj' : (j : Int) < n := by omega
          have hjn : j < n := by omega
          clear hj
          have hc1 := (HR.out.below HX).held j hjn
          have hc2 := (HR.out.below HX).text j hjn
          have hs512 := (HP.out.fit j hjn).1
          obtain ⟨s, hs⟩ : ∃ s, (l.getD j default).text = s := ⟨_, rfl⟩
          rw [hs] at hc2 hs512
          have HS := Lib.hid hs
          clear hs
          obtain ⟨m, hm⟩ : ∃ m, m = 512 - s.size := ⟨_, rfl⟩
          have hm2 : (512 : Int) - s.size = (m : Int) := by omega
          have hm5 : m ≤ 512 := by omega
          obtain ⟨zs, hzl, hadd, hrep⟩ := zs_ex s m hm
          have hsum : s.size + zs.size ≤ 9223372036854775807 := by omega
          have HREP := Lib.hid hrep
          have hradd : ∀ W, (Op.stringOp .add s zs).run Try.prog W = .ok (.string (rawOf s)) W := fun W => by rw [run_string_add_sum W s zs hsum, hadd]
          clear hrep hadd hsum hzl
          clear hm
          go_wp2_with fail
          refine wp_abs1 (n := wr.heap.size) (w := wr) wr.heap.size 63 (by (repeat (first | (with_reducible assumption) | (with_reducible exact Below.refl _ _) | with_reducible apply bl_drewN | with_reducible apply Below.drew | (with_reducible apply bl_alloc; focus (first | (simp; done) | (simp; omega) | omega)) | (with_reducible apply bl_set; focus (first | (simp; done) | (simp; omega) | omega))))) (by (repeat (first | (with_reducible assumption) | (with_reducible apply Blk.new'; (first | (with_reducible rfl) | (simp; done))) | with_reducible apply Blk.alloc | with_reducible apply Blk.set | ((with_reducible apply Blk.set_ne); focus (first | (simp; done) | (simp; omega))) | with_reducible apply Blk.drewN | with_reducible apply Blk.drew))) (fun W1 hb1 BX => ?_)
          have P1 := Lib.hid (HP.out.below (Below.thn HX hb1 HXs))
          have HX1 := Lib.hid (Below.thn HX hb1 HXs)
          clear hb1 hc1 hc2
          refine wp_region_gr (by kernel_rfl) (by kernel_rfl) ?_
          repeat (first
            | go_big_quiet_skip
            | ((refine BigFrame.wpQuiet_want rfl (fun K hK => quiet_mk ?_)); apply Exists.intro; refine ⟨fun wq hq => ?_, hK _ ?_⟩
               · have f0 := hq.blk BX; go_simp; (try simp only [↓IntWalk.iteOmega]); (try go_bits)
                 first | done | rfl | exact ⟨rfl, rfl⟩ | (go_at_call 18; refine (raw_ok pb B n ev j l s _ (P1.out.below hq.out) hjn HS.out).mono ?_; rintro e wr ⟨rfl, hbr⟩; exact ⟨rfl, hq.next hbr⟩) | (go_at_call 30; refine (HREP.out _).mono ?_; rintro e wr ⟨rfl, hbr⟩; exact ⟨rfl, hq.next hbr⟩)
               clear hK K; (try simp only [Act.put, List.setIfInBounds_toArray, List.set_cons_zero, List.set_cons_succ])))
          refine wpQuiet_nil ?_
          intro W2 hw1
          have HX2 := Below.thn HX1.out hw1.out HX1.out.size
          go_wp2_with fail
          go_roundg g2
          case rel => exact ⟨j + 1, by simp, by have := HJ.out; omega, HX2⟩
          case measure => omega
    | succ g =>
      have hk' : (k : Int) < len := by omega
      have hkn : k < len := by omega
      clear hk
      obtain rfl := hao (by omega)
      have ha := hacts.below HB
      have hc0 := ha.c0 k hkn
      have hc1 := ha.c1 k hkn
      have hc2 := ha.c2 k hkn
      have hd := ha.small k hkn
      generalize acts.getD k default = x at hc0 hc1 hc2 hd
      obtain ⟨d, i, t⟩ := x
      simp only at hc0 hc1 hc2 hd
      clear ha
      by_cases hbig : 600 < t.size
      · have hbig' : (600 : Int) < t.size := by omega
        clear P R
        go_wp2
        go_ret
        exact ⟨rfl, by (repeat (first | (with_reducible assumption) | (with_reducible exact Below.refl _ _) | with_reducible apply bl_drewN | with_reducible apply Below.drew | (with_reducible apply bl_alloc; focus (first | (simp; done) | (simp; omega) | omega)) | (with_reducible apply bl_set; focus (first | (simp; done) | (simp; omega) | omega))))⟩
      · have hbig' : ¬ (600 : Int) < t.size := by omega
        have hP := Lib.hid P
        have hR := Lib.hid R
        have hPl := P.lt
        have hPl2 := P.hd.lt
        have hRl := R.lt
        clear P R
        obtain ⟨r, hr⟩ : ∃ r, r = d % 5 := ⟨_, rfl⟩
        have hr1 : (d : Int) % 5 = (r : Int) := by omega
        have hr2 : (d : Int).tmod 5 = (r : Int) := by rw [hr]; rfl
        have hr5 : r < 5 := by omega
        clear hr
        go_upto_block 2 with fail
        refine wp_abs1 (n := wr.heap.size) (w := wr) wr.heap.size 60 (by (repeat (first | (with_reducible assumption) | (with_reducible exact Below.refl _ _) | with_reducible apply bl_drewN | with_reducible apply Below.drew | (with_reducible apply bl_alloc; focus (first | (simp; done) | (simp; omega) | omega)) | (with_reducible apply bl_set; focus (first | (simp; done) | (simp; omega) | omega))))) (by (repeat (first | (with_reducible assumption) | (with_reducible apply Blk.new'; (first | (with_reducible rfl) | (simp; done))) | with_reducible apply Blk.alloc | with_reducible apply Blk.set | ((with_reducible apply Blk.set_ne); focus (first | (simp; done) | (simp; omega))) | with_reducible apply Blk.drewN | with_reducible apply Blk.drew))) (fun W1 hb1 BA => ?_)
        have S : St w W1 pb B rb wr.heap.size n l l ev #[.int .u8 d, .int .i64 i, .string t] := ⟨hP.out.below hb1, hR.out.below hb1, BA, Below.thn HB hb1 HBs, by omega, by omega, by omega, by omega, by omega, hpb', hB', HBs2⟩
        have hAl : wr.heap.size < W1.heap.size := BA.lt
        have hS := Lib.hid S
        clear hb1 BA hP hR hc0 hc1 hc2 S
        generalize wr.heap.size = A at hS hAl hPl hPl2 hRl
        clear HB
        go_cut [8] (fun s8 wx => Left w pb B rb n k s8 wx)
        case first =>
          rcases (by omega : r = 2 ∨ r = 3 ∨ r = 4 ∨ r < 2) with hr | hr | hr | hr
          · refine arm2 w W1 pb B rb A n k ev r d i t l _ _ _ _ _ _ _ _ _ _ _ _ _ _ _ _ _ _ _ _ _ _ _ _ _ _ _ _ _ _ _ _ _ _ _ _ _ _ _ _ _ _ _ _ _ _ _ _ _ _ _ _ _ _ _ _ _ _ _ _ _ _ _ _ _ _ _ _ _ _ _ _ _ _ _ _ _ _ _ _ _ _ _ _ _ _ _ _ _ _ _ _ _ _ _ _ _ _ _ _ _ _ _ _ _ _ _ _ _ _ _ _ _ _ _ _ _ _ _ _ _ _ _ _ _ _ _ _ _ _ _ _ _ _ _ _ _ _ _ _ _ _ _ _ _ _ _ _ _ _ _ _ _ _ _ _ _ _ _ _ _ _ _ _ _ _ _ _ _ _ _ _ _ _ _ _ _ _ _ _ _ _ _ _ _ _ _ _ _ _ _ _ _ _ _ _ _ _ _ _ _ _ _ _ _ _ _ _ _ _ _ _ _ _ _ _ _ _ _ _ _ _ _ _ _ _ _ _ _ _ _ _ _ _ _ _ _ _ _ _ _ _ _ _ _ _ _ _ _ _ _ _ _ _ _ _ _ _ _ _ _ _ _ _ _ _ h1 h2 (by omega) hev hd hr1 hr2 hr5 hr hbig hAl hPl hPl2 hRl hS ?_
            intro s8 x4 x11 x12 x13 x14 x15 x16 x17 x18 x19 x62 x63 x64 x65 x66 x67 x68 x69 x70 x71 x72 x73 x74 x75 x76 x77 x78 x79 x80 x81 x82 x83 x84 x85 x86 x87 x88 x89 x90 x91 x92 x93 x94 x95 x96 x97 x98 x99 x100 x101 x102 x103 x104 x105 x106 x107 x108 x109 x110 x111 x112 x113 x114 x115 x116 x117 x118 x119 x120 x121 x122 x123 x124 x125 x126 x127 x128 x129 x130 x131 x132 x133 x134 x135 x136 x137 x138 x139 x140 x141 x142 x143 x144 x145 x146 x147 x148 x149 x150 x151 x152 x153 x154 x155 x156 x157 x158 x159 x160 x161 x162 x163 x164 x165 x166 x167 x168 x169 x170 x171 x172 x173 x174 x175 x176 x177 x178 x179 x180 x181 wx hR
            clear hr
            dsimp only
            go_wp2_with fail
            go_meet
            case rel => exact hR
          · refine arm3 w W1 pb B rb A n k ev r d i t l _ _ _ _ _ _ _ _ _ _ _ _ _ _ _ _ _ _ _ _ _ _ _ _ _ _ _ _ _ _ _ _ _ _ _ _ _ _ _ _ _ _ _ _ _ _ _ _ _ _ _ _ _ _ _ _ _ _ _ _ _ _ _ _ _ _ _ _ _ _ _ _ _ _ _ _ _ _ _ _ _ _ _ _ _ _ _ _ _ _ _ _ _ _ _ _ _ _ _ _ _ _ _ _ _ _ _ _ _ _ _ _ _ _ _ _ _ _ _ _ _ _ _ _ _ _ _ _ _ _ _ _ _ _ _ _ _ _ _ _ _ _ _ _ _ _ _ _ _ _ _ _ _ _ _ _ _ _ _ _ _ _ _ _ _ _ _ _ _ _ _ _ _ _ _ _ _ _ _ _ _ _ _ _ _ _ _ _ _ _ _ _ _ _ _ _ _ _ _ _ _ _ _ _ _ _ _ _ _ _ _ _ _ _ _ _ _ _ _ _ _ _ _ _ _ _ _ _ _ _ _ _ _ _ _ _ _ _ _ _ _ _ _ _ _ _ _ _ _ _ _ _ _ _ _ _ _ _ _ _ _ _ _ _ _ _ h1 h2 (by omega) hev hd hr1 hr2 hr5 hr hbig hAl hPl hPl2 hRl hS ?_
            intro s8 x4 x11 x12 x13 x14 x15 x16 x17 x18 x19 x62 x63 x64 x65 x66 x67 x68 x69 x70 x71 x72 x73 x74 x75 x76 x77 x78 x79 x80 x81 x82 x83 x84 x85 x86 x87 x88 x89 x90 x91 x92 x93 x94 x95 x96 x97 x98 x99 x100 x101 x102 x103 x104 x105 x106 x107 x108 x109 x110 x111 x112 x113 x114 x115 x116 x117 x118 x119 x120 x121 x122 x123 x124 x125 x126 x127 x128 x129 x130 x131 x132 x133 x134 x135 x136 x137 x138 x139 x140 x141 x142 x143 x144 x145 x146 x147 x148 x149 x150 x151 x152 x153 x154 x155 x156 x157 x158 x159 x160 x161 x162 x163 x164 x165 x166 x167 x168 x169 x170 x171 x172 x173 x174 x175 x176 x177 x178 x179 x180 x181 wx hR
            clear hr
            dsimp only
            go_wp2_with fail
            go_meet
            case rel => exact hR
          · refine arm4 w W1 pb B rb A n k ev r d i t l _ _ _ _ _ _ _ _ _ _ _ _ _ _ _ _ _ _ _ _ _ _ _ _ _ _ _ _ _ _ _ _ _ _ _ _ _ _ _ _ _ _ _ _ _ _ _ _ _ _ _ _ _ _ _ _ _ _ _ _ _ _ _ _ _ _ _ _ _ _ _ _ _ _ _ _ _ _ _ _ _ _ _ _ _ _ _ _ _ _ _ _ _ _ _ _ _ _ _ _ _ _ _ _ _ _ _ _ _ _ _ _ _ _ _ _ _ _ _ _ _ _ _ _ _ _ _ _ _ _ _ _ _ _ _ _ _ _ _ _ _ _ _ _ _ _ _ _ _ _ _ _ _ _ _ _ _ _ _ _ _ _ _ _ _ _ _ _ _ _ _ _ _ _ _ _ _ _ _ _ _ _ _ _ _ _ _ _ _ _ _ _ _ _ _ _ _ _ _ _ _ _ _ _ _ _ _ _ _ _ _ _ _ _ _ _ _ _ _ _ _ _ _ _ _ _ _ _ _ _ _ _ _ _ _ _ _ _ _ _ _ _ _ _ _ _ _ _ _ _ _ _ _ _ _ _ _ _ _ _ _ _ _ _ _ _ h1 h2 (by omega) hev hd hr1 hr2 hr5 hr hbig hAl hPl hPl2 hRl hS ?_
            intro s8 x4 x11 x12 x13 x14 x15 x16 x17 x18 x19 x62 x63 x64 x65 x66 x67 x68 x69 x70 x71 x72 x73 x74 x75 x76 x77 x78 x79 x80 x81 x82 x83 x84 x85 x86 x87 x88 x89 x90 x91 x92 x93 x94 x95 x96 x97 x98 x99 x100 x101 x102 x103 x104 x105 x106 x107 x108 x109 x110 x111 x112 x113 x114 x115 x116 x117 x118 x119 x120 x121 x122 x123 x124 x125 x126 x127 x128 x129 x130 x131 x132 x133 x134 x135 x136 x137 x138 x139 x140 x141 x142 x143 x144 x145 x146 x147 x148 x149 x150 x151 x152 x153 x154 x155 x156 x157 x158 x159 x160 x161 x162 x163 x164 x165 x166 x167 x168 x169 x170 x171 x172 x173 x174 x175 x176 x177 x178 x179 x180 x181 wx hR
            clear hr
            dsimp only
            go_wp2_with fail
            go_meet
            case rel => exact hR
          · refine armG w W1 pb B rb A n k ev r d i t l _ _ _ _ _ _ _ _ _ _ _ _ _ _ _ _ _ _ _ _ _ _ _ _ _ _ _ _ _ _ _ _ _ _ _ _ _ _ _ _ _ _ _ _ _ _ _ _ _ _ _ _ _ _ _ _ _ _ _ _ _ _ _ _ _ _ _ _ _ _ _ _ _ _ _ _ _ _ _ _ _ _ _ _ _ _ _ _ _ _ _ _ _ _ _ _ _ _ _ _ _ _ _ _ _ _ _ _ _ _ _ _ _ _ _ _ _ _ _ _ _ _ _ _ _ _ _ _ _ _ _ _ _ _ _ _ _ _ _ _ _ _ _ _ _ _ _ _ _ _ _ _ _ _ _ _ _ _ _ _ _ _ _ _ _ _ _ _ _ _ _ _ _ _ _ _ _ _ _ _ _ _ _ _ _ _ _ _ _ _ _ _ _ _ _ _ _ _ _ _ _ _ _ _ _ _ _ _ _ _ _ _ _ _ _ _ _ _ _ _ _ _ _ _ _ _ _ _ _ _ _ _ _ _ _ _ _ _ _ _ _ _ _ _ _ _ _ _ _ _ _ _ _ _ _ _ _ _ _ _ _ _ _ _ _ _ h1 h2 (by omega) hev hd hr1 hr2 hr5 hr hbig hAl hPl hPl2 hRl hS ?_
            intro s8 x4 x11 x12 x13 x14 x15 x16 x17 x18 x19 x62 x63 x64 x65 x66 x67 x68 x69 x70 x71 x72 x73 x74 x75 x76 x77 x78 x79 x80 x81 x82 x83 x84 x85 x86 x87 x88 x89 x90 x91 x92 x93 x94 x95 x96 x97 x98 x99 x100 x101 x102 x103 x104 x105 x106 x107 x108 x109 x110 x111 x112 x113 x114 x115 x116 x117 x118 x119 x120 x121 x122 x123 x124 x125 x126 x127 x128 x129 x130 x131 x132 x133 x134 x135 x136 x137 x138 x139 x140 x141 x142 x143 x144 x145 x146 x147 x148 x149 x150 x151 x152 x153 x154 x155 x156 x157 x158 x159 x160 x161 x162 x163 x164 x165 x166 x167 x168 x169 x170 x171 x172 x173 x174 x175 x176 x177 x178 x179 x180 x181 wx hR
            clear hr
            dsimp only
            go_wp2_with fail
            go_meet
            case rel => exact hR
        case rest =>
          obtain ⟨l', ev', rfl, hev', P, R, HB⟩ := hcut
          have HBs := HB.size
          have hnm := freeN_sub l' n
          go_wp2_with fail
          refine (held_any pb B n ev' l' _ P).mono ?_
          rintro e w5 ⟨v, rfl, ho, hb⟩
          obtain ⟨a, c, rfl⟩ := own_slice ho
          have P := P.below hb
          have R := R.below hb
          have HB := Below.thn HB hb HBs
          have HBs := HB.size
          clear hb
          go_wp2_with fail
          refine (freeN_any pb B n ev' l' _ P).mono ?_
          rintro e w6 ⟨rfl, hb⟩
          have P := P.below hb
          have R := R.below hb
          have ho := own_below ho hb
          have HB := Below.thn HB hb HBs
          have HBs := HB.size
          clear hb
          go_wp2_with fail
          refine (rfree_any rb n l' _ R h2).mono ?_
          rintro e w7 ⟨rfl, hb⟩
          have P := P.below hb
          have R := R.below hb
          have ho := own_below ho hb
          have HB := Below.thn HB hb HBs
          have HBs := HB.size
          clear hb
          go_wp2_with fail
          refine (freeN_any pb B n ev' l' _ P).mono ?_
          rintro e w8 ⟨rfl, hb⟩
          have P := P.below hb
          have R := R.below hb
          have ho := own_below ho hb
          have HB := Below.thn HB hb HBs
          have HBs := HB.size
          clear hb
          go_wp2_with fail
          refine (ever_any pb B n ev' l' _ P).mono ?_
          rintro e w9 ⟨rfl, hb⟩
          have P := P.below hb
          have R := R.below hb
          have ho := own_below ho hb
          have HB := Below.thn HB hb HBs
          clear hb hS hbig hbig' hr1 hr2 hr5 hd hao
          have HO := Lib.hid ho
          have HP := Lib.hid P
          have HR := Lib.hid R
          have HBB := Lib.hid HB
          have HAT := Lib.hid (heldL_at l' n)
          have HRI := Lib.hid (heldL_rise l' n)
          have hle := heldL_le l' n
          go_wp2_with fail
          go_loopg [206] (heldL l' n).length (fun g t206 wx => ∃ j : Nat, t206 = .int .i64 j ∧ j + g = (heldL l' n).length ∧ wx = w9)
          case atStart => exact ⟨0, rfl, by omega, rfl⟩
          case round =>
            obtain ⟨j, rfl, hj, rfl⟩ := hrel
            have HJ := Lib.hid hj
            cases gk with
            | zero =>
              have hj' : ¬ (j : Int) < (heldL l' n).length := by omega
              clear hj
              go_wp2_with fail
              go_roundg g
              case rel => exact ⟨k + 1, ev', l', by simp, rfl, by have := HK.out; omega, hev', HP.out, HR.out, HBB.out⟩
              case measure => omega
            | succ g2 =>
              have hj' : (j : Int) < (heldL l' n).length := by omega
              have hjl : j < (heldL l' n).length := by omega
              clear hj
              obtain ⟨g0, rfl, hcell⟩ := own_at HO.out (by omega)
              have HC := Lib.hid hcell
              clear hcell
              have hcj := HC.out j hjl
              have hy := HAT.out j hjl
              obtain ⟨y, hy0⟩ : ∃ y, (heldL l' n).getD j 0 = y := ⟨_, rfl⟩
              rw [hy0] at hcj hy
              have hrh := HR.out.held y hy.1
              rw [hy.2] at hrh
              have hyn : (y : Int) < n := by omega
              have HY := Lib.hid hy0
              clear hy hy0
              by_cases hj0 : j = 0
              · subst hj0
                go_wp2_with fail
                go_roundg g2
                case rel => exact ⟨1, by simp, by have := HJ.out; omega, rfl⟩
                case measure => omega
              · obtain ⟨j1, hj1⟩ : ∃ j1, j = j1 + 1 := ⟨j - 1, by omega⟩
                have hcz := HC.out j1 (by omega)
                have hlt := HRI.out j1 (by omega)
                rw [← hj1, HY.out] at hlt
                generalize (heldL l' n).getD j1 0 = z at hcz hlt
                have hj2 : (j : Int) - 1 = (j1 : Int) := by omega
                have hj3 : (j1 : Int) < (heldL l' n).length := by omega
                have hj4 : (0 : Int) < j := by omega
                have hzy : (z : Int) < y := by omega
                clear hj1 hlt
                go_wp2_with fail
                go_roundg g2
                case rel => exact ⟨j + 1, by simp, by have := HJ.out; omega, rfl⟩
                case measure => omega
end Go.Proofs.Ytkfgbaieghlhkaa
