/- BatchShares: the walk. -/
import Derived.Test.YtkfgbaieghlhkaaBatchSh
namespace Go.Proofs.Ytkfgbaieghlhkaa
open Go.RowKit

theorem Good.fresh (n : Nat) : Good (fresh n) n [] :=
  ⟨fun e he => by simp at he, List.nodup_nil, by
    have := heldL_first (Proofs.Ytkfgbaieghlhkaa.fresh n) 0 n (fun i hi => by rw [fresh_get n i hi]; simp)
    rw [this]; simp⟩

theorem Sh.appended {w0 w w' : World} {pb B n ever ba bb base g cap : Nat} {L : List Buf} {lva lvb vx vy : Value} {ea eb : List Ent} {xs ys py : List OutE} {o : OutE} {O : Obj} (S : Sh w0 w pb B n ever ba bb base L lva lvb vx vy ea eb xs ys [o] py)
    (ho : w'.ownsRow base 54 3 (.slice (some ⟨g, 0, none⟩) (xs.length + 1) cap) (xs.length + 1) (outRow xs ++ [.int .u32 o.h, .int .u16 o.p, .string o.s])) (hg : (w.alloc O).grownBy w' vx.ownBlock) (hl : vx.ownBlock = some g ∨ g = w.heap.size + 1) :
    Sh w0 w' pb B n ever ba bb base L lva lvb (.slice (some ⟨g, 0, none⟩) (xs.length + 1) cap) vy ea eb (xs ++ [o]) ys [] py := by
  have hs := S.HB.size
  have o1 := S.M.o1
  have b1 := S.b1
  have hsz : (w.alloc O).heap.size = w.heap.size + 1 := by simp
  refine S.grow (((Below.refl _ _).alloc hs O).grown hg (by rw [hsz]; omega) (fun q hq => by have := own_ge S.M.X q hq; omega)) (fun k hk e => (hg.block k (by rw [hsz]; omega) e).trans (Below.heap_alloc w O k hk)) ?_ ?_ (by simp)
  · rw [outRow_snoc, List.length_append]; exact ho
  · rcases hl with h | h
    · exact Or.inl h.symm
    · exact Or.inr ⟨g, rfl, by omega⟩

set_option maxHeartbeats 4000000 in
set_option maxRecDepth 20000 in
theorem shares_walk (x b off len cap : Nat) (y : Int) (ao : Option Addr) (ss : List ByteArray) (w : World) (hx : x ≤ 255) (hy1 : 0 ≤ y) (hy2 : y < 18446744073709551616) (hl : len ≤ 40) (hao : 0 < len → ao = some ⟨b, off, none⟩) (hss : StrsAt w b off len ss) :
    Calls Try.prog 6 #[.int .u8 x, .slice ao len cap, .int .u64 y] w fun e w' => e = .returned (.bool true) ∧ Below w.heap.size w w' := by
  obtain ⟨i0, hi0, hz0, hz1, hz2⟩ := info_parts info54
  have g3 : ¬ (40 : Int) < len := by omega
  obtain ⟨r, hr⟩ : ∃ r, r = x % 20 := ⟨_, rfl⟩
  have hr2 : (x : Int).tmod 20 = (r : Int) := by rw [hr]; rfl
  have hr4 : r < 20 := by omega
  obtain ⟨m, hm⟩ : ∃ m, m = 1 + r := ⟨_, rfl⟩
  have hm2 : (1 : Int) + r = (m : Int) := by omega
  have hm3 : 1 ≤ m ∧ m ≤ 20 := by omega
  clear hr hm
  go_enter Try.func6, Try.ntmps6
  go_wp2_with fail
  refine (awake22 _).mono ?_
  rintro e w1 ⟨rfl, HB⟩
  have HBs := HB.size
  go_wp2_with fail
  refine (new_any m _ (by omega) (by omega)).mono ?_
  rintro e w2 ⟨pb, B, rfl, P, hpb, hB, hb⟩
  have HB2 := Below.thn HB hb HBs
  have HBs2 := HB2.size
  have hpb' : w.heap.size ≤ pb := by omega
  have hB' : w.heap.size ≤ B := by omega
  have hpl := P.hd.lt
  have hBl := P.lt
  clear hb HB HBs hpb hB
  go_wp2_with fail
  refine (bnew_any pb 64 _ (by omega) (by omega)).mono ?_
  rintro e w3 ⟨ba, rfl, hba, hbs, hb⟩
  have P3 := P.below hb
  have HB3 := Below.thn HB2 hb HBs2
  have HBs3 := HB3.size
  have hbal := hba.lt
  clear hb P HB2
  go_wp2_with fail
  refine (bnew_any pb 64 _ (by omega) (by omega)).mono ?_
  rintro e w4 ⟨bb, rfl, hbb, hbs2, hb⟩
  have HB4 := Below.thn HB3 hb HBs3
  have HBs4 := HB4.size
  have hbbl := hbb.lt
  have hsz4 := hb.size
  have S : Sh w w4 pb B m 0 ba bb w4.heap.size (fresh m) (.slice none 0 0) (.slice none 0 0) (.slice none 0 0) (.slice none 0 0) [] [] [] [] [] [] :=
    ⟨⟨P3.below hb, ⟨hba.below hb, World.ownsRow_nil _ _ _ _⟩, ⟨hbb, World.ownsRow_nil _ _ _ _⟩, World.ownsRow_nil _ _ _ _, World.ownsRow_nil _ _ _ _,
      Apart.nil _, Apart.nil _, Apart.nil _, Apart.nil _, Apart.nil _, Apart.nil _, by omega, by omega, by omega, hbbl, Nat.le_refl _, by omega, by omega, by omega, by omega, by omega⟩,
      Good.fresh m, rfl, rfl, HB4, hpb', hB', by omega, by omega⟩
  obtain ⟨base, hbase⟩ : ∃ base, base = w4.heap.size := ⟨_, rfl⟩
  rw [← hbase] at S
  clear hbase
  clear hb P3 HB3 hba hbb HB4
  go_wp2_with fail
  go_loopg [13, 14, 43] len (fun g t13 t14 t43 wr => ∃ (k ev : Nat) (L : List Buf) (lva lvb : Value) (ea eb : List Ent) (xs ys : List OutE), t43 = .int .i64 k ∧ k + g = len ∧ ev ≤ k ∧ Sh w wr pb B m ev ba bb base L lva lvb t13 t14 ea eb xs ys [] [])
  case atStart => exact ⟨0, 0, _, _, _, [], [], [], [], rfl, by omega, Nat.le_refl _, S⟩
  case round =>
    clear S
    obtain ⟨k, ev, L, lva, lvb, ea, eb, xs, ys, rfl, hk, hev, S⟩ := hrel
    have HK := Lib.hid hk
    have HBs := S.HB.size
    cases gk with
    | zero =>
      have hk' : ¬ (k : Int) < len := by omega
      clear hk
      obtain ⟨ax, cx, hvx⟩ := own_slice S.M.X
      obtain ⟨ay, cy, hvy⟩ := own_slice S.M.Y
      subst hvx hvy
      have hxl := S.nx
      have hyl := S.swap.nx
      have hcn := S.cnt.1
      simp only [List.length_nil, Nat.add_zero] at hxl hyl
      have hx2 : xs.length ≤ 64 := by omega
      have hy2' : ys.length ≤ 64 := by omega
      clear hxl hyl hcn
      have HS := Lib.hid S
      clear S
      go_wp2_with fail
      refine (sh_flush _ _ pb B m ev bb ba base L lvb lva _ _ eb ea ys xs [] HS.out.swap (by omega)).mono ?_
      rintro e W1 ⟨v, rfl, ho, hX, L1, S1, T⟩
      obtain ⟨av, cv, rfl⟩ := own_slice ho
      clear HS T
      go_wp2_with fail
      refine (outs_equal _ _ _ _ ys _ ho hX hy2').mono ?_
      rintro e W2 ⟨rfl, hb⟩
      have S2 := S1.below hb
      clear ho hX S1 hb
      go_wp2_with fail
      refine (sh_flush _ _ pb B m ev ba bb base L1 lva _ _ _ ea [] xs [] [] S2.swap (by omega)).mono ?_
      rintro e W3 ⟨v2, rfl, ho, hX, L3, S3, T⟩
      obtain ⟨av2, cv2, rfl⟩ := own_slice ho
      clear S2 T
      go_wp2_with fail
      refine (outs_equal _ _ _ _ xs _ ho hX hx2).mono ?_
      rintro e W4 ⟨rfl, hb⟩
      have S4 := S3.below hb
      clear ho hX S3 hb
      go_wp2_with fail
      refine (sh_free _ _ pb B m ev ba bb base _ _ _ _ _ _ _ _ _ _ _ S4).mono ?_
      rintro e W5 ⟨rfl, hb⟩
      have HB5 := (S4.below hb).HB
      have hv : (m : Int) - ((([] : List Ent).length + ([] : List Ent).length : Nat) : Int) = (m : Int) := by simp
      rw [hv]
      clear S4 hb hv
      go_wp2
      go_ret
      exact ⟨rfl, HB5⟩
    | succ g =>
      have hk' : (k : Int) < len := by omega
      have hkn : k < len := by omega
      clear hk
      obtain rfl := hao (by omega)
      have hs2 := hss.below S.HB
      have hsc := hs2.cell k hkn
      generalize ss.getD k ⟨#[]⟩ = s at hsc
      clear hs2
      by_cases hbig : 512 < s.size
      · have hbig' : (512 : Int) < s.size := by omega
        have HB := S.HB
        clear S
        go_wp2
        go_ret
        exact ⟨rfl, HB⟩
      · have hbig' : ¬ (512 : Int) < s.size := by omega
        have hs5 : s.size ≤ 512 := by omega
        obtain ⟨ax, cx, hvx⟩ := own_slice S.M.X
        obtain ⟨ay, cy, hvy⟩ := own_slice S.M.Y
        subst hvx hvy
        have hlt1 := own_lt S.M.A.own
        have hlt2 := own_lt S.M.C.own
        have ho1 := S.M.o1; have ho2 := S.M.o2; have ho3 := S.M.o3; have ho4 := S.M.o4; have ho5 := S.M.o5
        have hb1 : Below wr.heap.size wr (wr.alloc (.cells #[.int .u32 k, .int .u16 0, .string s] 54)) := (Below.refl _ _).alloc (Nat.le_refl _) _
        have BX := Blk.new wr #[.int .u32 k, .int .u16 0, .string s] 54
        have hcn := S.cnt.1
        have hny := S.swap.nx
        simp only [List.length_nil, Nat.add_zero] at hny
        have HNY := Lib.hid hny
        have HS := Lib.hid S
        clear S hbig hny
        go_wp2_with fail
        refine (sh_free _ _ pb B m ev ba bb base L lva lvb _ _ ea eb xs ys [] [] (HS.out.below hb1)).mono ?_
        rintro e W2 ⟨rfl, hb2⟩
        have S2 := (HS.out.below hb1).below hb2
        have BX2 := BX.below hb2
        clear hb1 hb2 BX HS hsc
        have hxc := BX2.cell; have hxf := BX2.frozen
        obtain ⟨g0, hg0⟩ : ∃ g0, wr.heap.size = g0 := ⟨_, rfl⟩
        rw [hg0] at BX2 hlt1 hlt2 hxc hxf ho5 HBs
        simp only [hg0]
        clear hg0
        go_upto_if 58 with fail
        go_cut [13] (fun s13 wx => ∃ (L : List Buf) (lva : Value) (ea : List Ent) (xs : List OutE), Sh w wx pb B m ev ba bb base L lva lvb s13 (.slice ay ys.length cy) ea eb xs ys [] [] ∧ Blk wx g0 #[.int .u32 k, .int .u16 0, .string s] 54 ∧ (∀ q, lva.ownBlock = some q → q < g0))
        case first =>
          by_cases hfull : ea.length + eb.length = m
          · have hf1 : (m : Int) - ((ea.length + eb.length : Nat) : Int) = 0 := by omega
            go_wp2_with fail
            refine (sh_add_none w W2 pb B m ev ba bb base L lva lvb _ _ ea eb xs ys [] [] k 0 s S2 (by omega) hfull hs5).mono ?_
            rintro e W3 ⟨rfl, hb⟩
            have S3 := S2.below hb
            have BX3 := BX2.below hb
            clear S2 BX2 hb hxc hxf
            have hnx := S3.nx
            go_wp2_with fail
            refine (sh_flush w W3 pb B m ev ba bb base L lva lvb _ _ ea eb xs ys [] S3 (by omega)).mono ?_
            rintro e W4 ⟨v, rfl, ho, hX, L4, S4, T⟩
            have BX4 := T.blk BX3 (by omega) (by omega) (by omega) (fun e => by cases e)
            obtain ⟨av, cv, rfl⟩ := own_slice ho
            clear S3 BX3 T
            go_wp2_with fail
            refine (outs_equal _ _ _ _ xs _ ho hX (by simp at hnx; omega)).mono ?_
            rintro e W5 ⟨rfl, hb⟩
            have S5 := S4.below hb
            have BX5 := BX4.below hb
            go_wp2_with fail
            go_meet
            case rel => exact ⟨L4, _, [], [], S5, BX5, fun q e => by cases e⟩
          · have hf1 : ¬ (m : Int) - ((ea.length + eb.length : Nat) : Int) = 0 := by omega
            go_wp2_with fail
            go_meet
            case rel => exact ⟨L, lva, ea, xs, S2, BX2, hlt1⟩
        case rest =>
          clear S2 BX2 hlt1 hxc hxf hcn
          obtain ⟨L, lva, ea, xs, S, BX, hlt1⟩ := hcut
          obtain ⟨a13, c13, h13⟩ := own_slice S.M.X
          subst h13
          have hxc := BX.cell; have hxf := BX.frozen
          have hcn := S.cnt.1
          have hnx := S.nx
          simp only [List.length_nil, Nat.add_zero] at hnx
          have hny := HNY.out
          have hnx1 : xs.length ≤ 20 := by omega
          have hny1 : ys.length ≤ 20 := by omega
          have hcm : xs.length + ys.length ≤ m := by omega
          have HNX := Lib.hid hnx
          clear hnx hny
          have hnk := HK.out
          by_cases hq1 : bits BinOp.and IntKind.u64 (y / 2 ^ k) 1 = 1
          · by_cases hfull : ea.length + eb.length = m
            · go_wp2_with fail
              refine (sh_add_none _ _ pb B m ev ba bb base L lva lvb _ _ ea eb xs ys [] [] k 0 s S (by omega) hfull hs5).mono ?_
              rintro e W3 ⟨rfl, hb⟩
              go_wp2_with fail
              have S9 := S.below hb
              clear S
              refine (sh_free _ _ pb B m _ ba bb base _ _ _ _ _ _ _ _ _ _ _ S9).mono ?_
              rintro e W9 ⟨rfl, hb9⟩
              have S10 := S9.below hb9
              have hv : (m : Int) - ((ea.length + eb.length : Nat) : Int) = (m : Int) - xs.length - ys.length := by have hnx := HNX.out; have hny := HNY.out; (try simp only [List.length_append, List.length_cons, List.length_nil]); omega
              rw [hv]
              clear S9 hb9 hv
              go_wp2_with fail
              go_roundg g
              case rel => exact ⟨k + 1, _, _, _, _, _, _, _, _, by simp, by omega, Nat.le_succ_of_le hev, S10⟩
              case measure => omega
            · go_wp2_with fail
              refine (sh_add_ok _ _ pb B m ev ba bb base L lva lvb _ _ ea eb xs ys [] k 0 s S (by omega) (by omega) hs5 (by omega)).mono ?_
              rintro e W3 ⟨rfl, L', lva', x, S3, T⟩
              have BX3 := T.blk BX (by omega) (by omega) (by omega) (fun e => by have := hlt1 g0 e.symm; omega)
              have o5 := S3.M.o5
              have X3 := S3.M.X
              clear S BX hxc hxf T
              have hxc := BX3.cell; have hxf := BX3.frozen
              go_wp2_with (at_builtin; go_loud (refine wpList_append_lies _ rfl _ _ 50 rfl base 54 i0 _ 3 24 Try.underlying50 hi0 hz0 hz1 hz2 rfl (by decide) _ xs.length (outRow xs) rfl (X3.alloc _) ⟨W3.heap.size, 0, none⟩ 1 1 [.int .u32 k, .int .u16 0, .string s] rfl rfl ?c1 ?c2 (by decide) ?c3 ?c4 ?c5 (W3.heap.size + 1) ?c6 ?_))
              case c1 => exact World.news_of_block (heap_alloc_new W3 _)
              case c2 => simp [Value.oneCell']
              case c3 => unfold maxLen; omega
              case c4 => omega
              case c5 => simp; omega
              case c6 => simp
              intro gg cap' W5 ho hg hlg hltg
              have S5 := S3.appended (o := ⟨k, 0, s⟩) ho hg hlg
              clear S3 X3 BX3 hxc hxf ho hg hlg hltg
              go_wp2_with fail
              have S9 := S5
              clear S5
              refine (sh_free _ _ pb B m _ ba bb base _ _ _ _ _ _ _ _ _ _ _ S9).mono ?_
              rintro e W9 ⟨rfl, hb9⟩
              have S10 := S9.below hb9
              have hv : (m : Int) - (((ea ++ [x]).length + eb.length : Nat) : Int) = (m : Int) - ((xs.length : Int) + 1) - ys.length := by have hnx := HNX.out; have hny := HNY.out; (try simp only [List.length_append, List.length_cons, List.length_nil]); omega
              rw [hv]
              clear S9 hb9 hv
              go_wp2_with fail
              go_roundg g
              case rel => exact ⟨k + 1, _, _, _, _, _, _, _, _, by simp, by omega, Nat.succ_le_succ hev, S10⟩
              case measure => omega
          · by_cases hq0 : bits BinOp.and IntKind.u64 (y / 2 ^ k) 1 = 0
            · by_cases hfull : ea.length + eb.length = m
              · go_wp2_with fail
                refine (sh_add_none _ _ pb B m ev bb ba base L lvb lva _ _ eb ea ys xs [] [] k 0 s S.swap (by omega) (by omega) hs5).mono ?_
                rintro e W3 ⟨rfl, hb⟩
                go_wp2_with fail
                have S9 := S.below hb
                clear S
                refine (sh_free _ _ pb B m _ ba bb base _ _ _ _ _ _ _ _ _ _ _ S9).mono ?_
                rintro e W9 ⟨rfl, hb9⟩
                have S10 := S9.below hb9
                have hv : (m : Int) - ((ea.length + eb.length : Nat) : Int) = (m : Int) - xs.length - ys.length := by have hnx := HNX.out; have hny := HNY.out; (try simp only [List.length_append, List.length_cons, List.length_nil]); omega
                rw [hv]
                clear S9 hb9 hv
                go_wp2_with fail
                go_roundg g
                case rel => exact ⟨k + 1, _, _, _, _, _, _, _, _, by simp, by omega, Nat.le_succ_of_le hev, S10⟩
                case measure => omega
              · go_wp2_with fail
                refine (sh_add_ok _ _ pb B m ev bb ba base L lvb lva _ _ eb ea ys xs [] k 0 s S.swap (by omega) (by omega) hs5 (by omega)).mono ?_
                rintro e W3 ⟨rfl, L', lva', x, S3, T⟩
                have BX3 := T.blk BX (by omega) (by omega) (by omega) (fun e => by have := hlt2 g0 e.symm; omega)
                have o5 := S3.M.o5
                have X3 := S3.M.X
                clear S BX hxc hxf T
                have hxc := BX3.cell; have hxf := BX3.frozen
                go_wp2_with (at_builtin; go_loud (refine wpList_append_lies _ rfl _ _ 50 rfl base 54 i0 _ 3 24 Try.underlying50 hi0 hz0 hz1 hz2 rfl (by decide) _ ys.length (outRow ys) rfl (X3.alloc _) ⟨W3.heap.size, 0, none⟩ 1 1 [.int .u32 k, .int .u16 0, .string s] rfl rfl ?c1 ?c2 (by decide) ?c3 ?c4 ?c5 (W3.heap.size + 1) ?c6 ?_))
                case c1 => exact World.news_of_block (heap_alloc_new W3 _)
                case c2 => simp [Value.oneCell']
                case c3 => unfold maxLen; omega
                case c4 => omega
                case c5 => simp; omega
                case c6 => simp
                intro gg cap' W5 ho hg hlg hltg
                have S5 := S3.appended (o := ⟨k, 0, s⟩) ho hg hlg
                clear S3 X3 BX3 hxc hxf ho hg hlg hltg
                go_wp2_with fail
                have S9 := S5.swap
                clear S5
                refine (sh_free _ _ pb B m _ ba bb base _ _ _ _ _ _ _ _ _ _ _ S9).mono ?_
                rintro e W9 ⟨rfl, hb9⟩
                have S10 := S9.below hb9
                have hv : (m : Int) - ((ea.length + (eb ++ [x]).length : Nat) : Int) = (m : Int) - xs.length - ((ys.length : Int) + 1) := by have hnx := HNX.out; have hny := HNY.out; (try simp only [List.length_append, List.length_cons, List.length_nil]); omega
                rw [hv]
                clear S9 hb9 hv
                go_wp2_with fail
                go_roundg g
                case rel => exact ⟨k + 1, _, _, _, _, _, _, _, _, by simp, by omega, Nat.succ_le_succ hev, S10⟩
                case measure => omega
            · go_wp2_with fail
              have S9 := S
              clear S
              refine (sh_free _ _ pb B m _ ba bb base _ _ _ _ _ _ _ _ _ _ _ S9).mono ?_
              rintro e W9 ⟨rfl, hb9⟩
              have S10 := S9.below hb9
              have hv : (m : Int) - ((ea.length + eb.length : Nat) : Int) = (m : Int) - xs.length - ys.length := by have hnx := HNX.out; have hny := HNY.out; (try simp only [List.length_append, List.length_cons, List.length_nil]); omega
              rw [hv]
              clear S9 hb9 hv
              go_wp2_with fail
              go_roundg g
              case rel => exact ⟨k + 1, _, _, _, _, _, _, _, _, by simp, by omega, Nat.le_succ_of_le hev, S10⟩
              case measure => omega
end Go.Proofs.Ytkfgbaieghlhkaa
