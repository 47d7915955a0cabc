/- BatchTurns: the walk. -/
import Derived.Test.YtkfgbaieghlhkaaBatchT2
import Derived.Test.YtkfgbaieghlhkaaPoolOwnersW
namespace Go.Proofs.Ytkfgbaieghlhkaa
open Go.RowKit

structure BAct where
  f : Bool
  h : Int
  p : Int
  t : ByteArray
  o : Nat
  deriving Inhabited
structure BActsAt (w : World) (b off len : Nat) (l : List BAct) : Prop where
  lt : 0 < len → b < w.heap.size
  c0 : ∀ j, j < len → w.cell? ⟨b, off + j * 5, none⟩ = some (.bool (l.getD j default).f)
  c1 : ∀ j, j < len → w.cell? ⟨b, off + j * 5 + 1, none⟩ = some (.int .u32 (l.getD j default).h)
  c2 : ∀ j, j < len → w.cell? ⟨b, off + j * 5 + 2, none⟩ = some (.int .u16 (l.getD j default).p)
  c3 : ∀ j, j < len → w.cell? ⟨b, off + j * 5 + 3, none⟩ = some (.string (l.getD j default).t)
  c4 : ∀ j, j < len → w.cell? ⟨b, off + j * 5 + 4, none⟩ = some (.int .u8 (l.getD j default).o)
  small : ∀ j, j < len → (l.getD j default).o ≤ 255
theorem BActsAt.below {w w' : World} {b off len : Nat} {l : List BAct} (h : BActsAt w b off len l) (g : Below w.heap.size w w') : BActsAt w' b off len l :=
  ⟨fun h0 => Nat.lt_of_lt_of_le (h.lt h0) g.size, fun j hj => (g.cell (p := ⟨b, _, none⟩) (h.lt (by omega))).trans (h.c0 j hj), fun j hj => (g.cell (p := ⟨b, _, none⟩) (h.lt (by omega))).trans (h.c1 j hj),
    fun j hj => (g.cell (p := ⟨b, _, none⟩) (h.lt (by omega))).trans (h.c2 j hj), fun j hj => (g.cell (p := ⟨b, _, none⟩) (h.lt (by omega))).trans (h.c3 j hj), fun j hj => (g.cell (p := ⟨b, _, none⟩) (h.lt (by omega))).trans (h.c4 j hj), h.small⟩

theorem mem3_flush (w0 w : World) (pb B n ever bb base most : Nat) (L : List Buf) (lv vx : Value) (es : List Ent) (xs : List OutE) (M : Mem3 w pb B n ever bb base most L lv vx es xs) (l : Lg L n es xs [] []) (hm1 : es.length ≤ 64)
    (HB : Below w0.heap.size w0 w) (b1 : w0.heap.size ≤ pb) (b2 : w0.heap.size ≤ B) (b3 : w0.heap.size ≤ bb) :
    Calls Try.prog 23 #[.pointer (some ⟨bb, 0, none⟩)] w fun e w' => ∃ v, e = .returned v ∧ w'.ownsRow w.heap.size 54 3 v xs.length (outRow xs) ∧ w'.ownsRow base 54 3 vx xs.length (outRow xs) ∧
      ∃ L', PoolAt w' pb B n L' ever ∧ Good L' n [] ∧ Below w0.heap.size w0 w' := by
  have E1 : xs = outsOf L es := (List.append_nil xs) ▸ l.E
  have hlen : xs.length = es.length := by rw [E1, outsOf_length]
  have o1 := M.o1; have o2 := M.o2; have o3 := M.o3
  have G := l.G
  rw [List.map_nil] at G
  refine (flush_any pb B bb most base n ever lv es L w M.P M.A M.o1 M.o2 M.o3 M.n1 M.n2 hm1 G.left.1 G.left.2).mono ?_
  rintro e w' ⟨v, rfl, ho, P, A, T⟩
  rw [outCells_eq, ← E1, ← hlen] at ho
  refine ⟨v, rfl, ho, own_keep M.X (fun q hq hv => ?_), freeAll L es, P, G.flush M.P.len, T.thn HB (Nat.le_refl _) b1 b2 b3 (fun q e => by cases e)⟩
  have := own_ge M.X q hv
  exact T.block q hq (by omega) (by omega) (by omega) (fun e => by cases e)

set_option maxHeartbeats 8000000 in
set_option maxRecDepth 20000 in
theorem bturns_walk (x most b off len cap : Nat) (ao : Option Addr) (acts : List BAct) (w : World) (hx : x ≤ 255) (hm1 : 1 ≤ most) (hm2 : most ≤ 64) (hl : len ≤ 60) (hao : 0 < len → ao = some ⟨b, off, none⟩) (hacts : BActsAt w b off len acts) :
    Calls Try.prog 9 #[.int .u8 x, .int .i64 most, .slice ao len cap] w fun e w' => e = .returned (.bool true) ∧ Below w.heap.size w w' := by
  obtain ⟨i0, hi0, hz0, hz1, hz2⟩ := info_parts info54
  obtain ⟨i3, hi3, hy0, hy1, hy2⟩ := info_parts info3
  have g1 : ¬ (most : Int) < 1 := by omega
  have g2 : ¬ (64 : Int) < most := by omega
  have g3 : ¬ (60 : Int) < len := by omega
  obtain ⟨n, hn⟩ : ∃ n, n = 1 + x := ⟨_, rfl⟩
  have hn2 : (1 : Int) + x = (n : Int) := by omega
  have hn3 : 1 ≤ n ∧ n ≤ 256 := by omega
  clear hn
  go_enter Try.func9, Try.ntmps9
  go_wp2_with fail
  refine (awake22 _).mono ?_
  rintro e w1 ⟨rfl, HB⟩
  have HBs := HB.size
  go_wp2_with fail
  refine (new_any n _ (by omega) (by omega)).mono ?_
  rintro e w2 ⟨pb, B, rfl, P, hpb, hB, hb⟩
  have HB2 := Below.thn HB hb HBs
  have HBs2 := HB2.size
  have hpb' : w.heap.size ≤ pb := by omega
  have hB' : w.heap.size ≤ B := by omega
  have hpl := P.hd.lt
  have hBl := P.lt
  clear hb HB HBs hpb hB
  go_wp2_with fail
  refine (bnew_any pb most _ hm1 hm2).mono ?_
  rintro e w3 ⟨bb, rfl, hbb, hbs, hb⟩
  have hbal := hbb.lt
  have hbb' : w.heap.size ≤ bb := by omega
  have hsz3 := hb.size
  have M0 : Mem3 w3 pb B n 0 bb w3.heap.size most (fresh n) (.slice none 0 0) (.slice none 0 0) [] [] :=
    ⟨P.below hb, ⟨hbb, World.ownsRow_nil _ _ _ _⟩, World.ownsRow_nil _ _ _ _, Apart.nil _, by omega, by omega, hbal, Nat.le_refl _, by omega, by omega⟩
  have l0 : Lg (fresh n) n [] [] [] [] := ⟨⟨fun e he => by simp at he, List.nodup_nil, by
    have := heldL_first (fresh n) 0 n (fun i hi => by rw [fresh_get n i hi]; simp)
    rw [this]; simp⟩, rfl, fun i hi => by simp at hi⟩
  have HB3 := Below.thn HB2 hb HBs2
  obtain ⟨base, hbase⟩ : ∃ base, base = w3.heap.size := ⟨_, rfl⟩
  rw [← hbase] at M0
  clear hbase hb P HB2 hbb
  go_wp2_with fail
  go_loopg [11, 56] len (fun g t11 t56 wr => ∃ (k ev : Nat) (L : List Buf) (lv : Value) (es : List Ent) (xs : List OutE), t56 = .int .i64 k ∧ k + g = len ∧ ev ≤ 5 * k ∧ Mem3 wr pb B n ev bb base most L lv t11 es xs ∧ Lg L n es xs [] [] ∧ Below w.heap.size w wr ∧ es.length ≤ most)
  case atStart => exact ⟨0, 0, _, _, [], [], rfl, by omega, by omega, M0, l0, HB3, Nat.zero_le _⟩
  case round =>
    clear M0 l0 HB3
    obtain ⟨k, ev, L, lv, es, xs, rfl, hk, hev, M, lg, HB, hle⟩ := hrel
    have HBs := HB.size
    have HK := Lib.hid hk
    obtain ⟨ax, cx, hvx⟩ := own_slice M.X
    subst hvx
    have hnx := lg.nx
    simp only [List.length_nil, Nat.add_zero] at hnx
    have hxl : xs.length ≤ 64 := by omega
    have HNX := Lib.hid hnx
    clear hnx
    cases gk with
    | zero =>
      have hk' : ¬ (k : Int) < len := by omega
      clear hk
      go_wp2_with fail
      refine (mem3_flush w _ pb B n ev bb base most L lv _ es xs M lg (by omega) HB hpb' hB' hbb').mono ?_
      rintro e W1 ⟨v, rfl, ho, hX, L1, P1, G1, HB1⟩
      obtain ⟨av, cv, rfl⟩ := own_slice ho
      clear M lg HB HBs
      have HBs := HB1.size
      go_wp2_with fail
      refine (outs_equal _ _ _ _ xs _ ho hX hxl).mono ?_
      rintro e W2 ⟨rfl, hb⟩
      have P2 := P1.below hb
      have HB2 := Below.thn HB1 hb HBs
      have HBs2 := HB2.size
      clear ho hX P1 HB1 hb HBs
      go_wp2_with fail
      refine (freeN_any pb B n ev L1 _ P2).mono ?_
      rintro e W3 ⟨rfl, hb⟩
      have hfn : freeN L1 n = n := by rw [G1.freeN]; rfl
      rw [hfn]
      have P3 := P2.below hb
      have HB3 := Below.thn HB2 hb HBs2
      have HBs3 := HB3.size
      clear P2 HB2 hb HBs2 hfn
      have hh0 := (P3.fit 0 (by omega)).2 (G1.allFree 0 (by omega))
      go_wp2_with fail
      refine (raw_ok pb B n ev 0 L1 ⟨#[]⟩ _ P3 (by omega) hh0).mono ?_
      rintro e W4 ⟨rfl, hb⟩
      have HB4 := Below.thn HB3 hb HBs3
      have HBs4 := HB4.size
      clear hb
      go_wp2_with fail
      refine (repeat_512 _).mono ?_
      rintro e W5 ⟨rfl, hb⟩
      have HB5 := Below.thn HB4 hb HBs4
      have hz : zraw = rawOf ⟨#[]⟩ := rfl
      rw [hz]
      go_wp2
      go_ret
      exact ⟨rfl, HB5⟩
    | succ g =>
      have hk' : (k : Int) < len := by omega
      have hkn : k < len := by omega
      clear hk
      obtain rfl := hao (by omega)
      have ha := hacts.below HB
      have hc0 := ha.c0 k hkn
      have hc1 := ha.c1 k hkn
      have hc2 := ha.c2 k hkn
      have hc3 := ha.c3 k hkn
      have hc4 := ha.c4 k hkn
      have hsm := ha.small k hkn
      generalize acts.getD k default = act at hc0 hc1 hc2 hc3 hc4 hsm
      obtain ⟨f, h, p, t, o⟩ := act
      simp only at hc0 hc1 hc2 hc3 hc4 hsm
      clear ha
      by_cases hbig : 600 < t.size
      · have hbig' : (600 : Int) < t.size := by omega
        clear M lg
        go_wp2
        go_ret
        exact ⟨rfl, by (repeat (first | (with_reducible assumption) | (with_reducible exact Below.refl _ _) | with_reducible apply bl_drewN | with_reducible apply Below.drew | (with_reducible apply bl_alloc; focus (first | (simp; done) | (simp; omega) | omega)) | (with_reducible apply bl_set; focus (first | (simp; done) | (simp; omega) | omega))))⟩
      · have hbig' : ¬ (600 : Int) < t.size := by omega
        obtain ⟨r, hr⟩ : ∃ r, r = o % 5 := ⟨_, rfl⟩
        have hr2 : (o : Int).tmod 5 = (r : Int) := by rw [hr]; rfl
        have hr5 : r < 5 := by omega
        clear hr
        go_upto_block 2 with fail
        refine wp_abs1 (n := wr.heap.size) (w := wr) wr.heap.size 72 (by (repeat (first | (with_reducible assumption) | (with_reducible exact Below.refl _ _) | with_reducible apply bl_drewN | with_reducible apply Below.drew | (with_reducible apply bl_alloc; focus (first | (simp; done) | (simp; omega) | omega)) | (with_reducible apply bl_set; focus (first | (simp; done) | (simp; omega) | omega))))) (by (repeat (first | (with_reducible assumption) | (with_reducible apply Blk.new'; (first | (with_reducible rfl) | (simp; done))) | with_reducible apply Blk.alloc | with_reducible apply Blk.set | ((with_reducible apply Blk.set_ne); focus (first | (simp; done) | (simp; omega))) | with_reducible apply Blk.drewN | with_reducible apply Blk.drew))) (fun W1 hb1 BA => ?_)
        have S0 : Bt w W1 pb B n ev bb base most wr.heap.size #[.bool f, .int .u32 h, .int .u16 p, .string t, .int .u8 o] L lv (.slice ax xs.length cx) (.slice none 0 0) es xs [] [] [] := ⟨M.start hb1 BA, lg, Below.thn HB hb1 HBs, hpb', hB', hbb', hle⟩
        have HL := Lib.hid hle
        clear hb1 BA M lg HB hc0 hc1 hc2 hc3 hc4 hle
        generalize wr.heap.size = A0 at S0
        go_wp2_with fail
        go_loopg [14, 67] r (fun g t14 t67 wx => ∃ (j ev2 : Nat) (L : List Buf) (os : List Nat), t67 = .int .u8 j ∧ j + g = r ∧ ev2 ≤ ev + j ∧ Bt w wx pb B n ev2 bb base most A0 #[.bool f, .int .u32 h, .int .u16 p, .string t, .int .u8 o] L lv (.slice ax xs.length cx) t14 es xs [] os os)
        case atStart => exact ⟨0, ev, L, [], rfl, by omega, by omega, S0⟩
        case round =>
          rename_i wq
          clear S0
          obtain ⟨j, ev2, L, os, rfl, hj, hev2, S⟩ := hrel
          obtain ⟨ao, co, hvo⟩ := own_slice S.M.Z
          subst hvo
          have hcn := S.l.cnt.1
          have HJ := Lib.hid hj
          cases gk with
          | zero =>
            have hj' : ¬ (j : Int) < r := by omega
            clear hj
            have hle := HL.out
            have hc0 := S.M.BA.cell; have hcf := S.M.BA.frozen
            have hev3 : ev2 ≤ 5 * k + 4 := by have := HJ.out; omega
            have hol : os.length ≤ 256 := by omega
            go_upto_if 82 with fail
            go_cut [11, 17] (fun s11 s17 wx => ∃ (ev4 : Nat) (L : List Buf) (lv : Value) (es : List Ent) (xs : List OutE), ev4 ≤ 5 * k + 5 ∧ Bt w wx pb B n ev4 bb base most A0 #[.bool f, .int .u32 h, .int .u16 p, .string t, .int .u8 o] L lv s11 (.slice ao os.length co) es xs [] os os)
            case first =>
              cases f with
              | true =>
                go_wp2_with fail
                refine (bt_flush _ _ _ _ _ _ _ _ _ _ _ _ _ _ _ _ _ _ _ S hm2).mono ?_
                rintro e W2 ⟨v, rfl, hO, hX, L2, S2⟩
                obtain ⟨av, cv, rfl⟩ := own_slice hO
                clear S hc0 hcf
                go_wp2_with fail
                refine (outs_equal _ _ _ _ xs _ hO hX hxl).mono ?_
                rintro e W3 ⟨rfl, hb⟩
                have S3 := S2.below hb
                clear S2 hO hX hb
                go_wp2_with fail
                go_meet
                case rel => exact ⟨ev2, L2, _, [], [], by omega, S3⟩
              | false =>
                obtain ⟨z, hz⟩ : ∃ z, addR es.length most (n - (es.length + os.length)) t.size = z := ⟨_, rfl⟩
                have BA := S.M.BA
                have HS := Lib.hid S
                clear hc0 hcf S
                go_wp2_with fail
                refine wp_region_gr_tail 8 (by kernel_rfl) (by kernel_rfl) ?_
                simp only [List.take_succ_cons, List.take_zero, List.drop_succ_cons, List.drop_zero]
                repeat (first
                  | go_big_quiet_skip
                  | ((refine BigFrame.wpQuiet_want rfl (fun K hK => quiet_mk ?_)); apply Exists.intro; refine ⟨fun wq hq => ?_, hK _ ?_⟩
                     · have f0 := hq.blk BA; go_simp; (try simp only [↓IntWalk.iteOmega]); (try go_bits)
                       first | done | rfl | exact ⟨rfl, rfl⟩ | (go_at_call 13; refine (bt_free _ _ _ _ _ _ _ _ _ _ _ _ _ _ _ _ _ _ _ _ (HS.out.below hq.out)).mono ?_; rintro e wr ⟨rfl, hbr⟩; exact ⟨rfl, hq.next hbr⟩)
                     clear hK K; (try simp only [Act.put, List.setIfInBounds_toArray, List.set_cons_zero, List.set_cons_succ])))
                refine wpQuiet_nil ?_
                intro W2 hw2
                have S2 := HS.out.below hw2.out
                clear HS BA
                go_wp2_with fail
                refine (refadd_any xs.length most (n - (es.length + os.length)) t.size _ (by omega) (by omega) (by omega) (by omega)).mono ?_
                rintro e W3 ⟨rfl, hb⟩
                have S3 := S2.below hb
                have hz' : addR xs.length most (n - (es.length + os.length)) t.size = z := by rw [HNX.out]; exact hz
                rw [hz']
                clear S2 hw2 hb hz'
                have hc0 := S3.M.BA.cell; have hcf := S3.M.BA.frozen
                by_cases hz0 : z = 0
                · subst hz0
                  go_wp2_with fail
                  refine (bt_add_ok _ _ _ _ _ _ _ _ _ _ _ _ _ _ _ _ _ _ _ S3 h p t hm2 hz (by omega)).mono ?_
                  rintro e W4 ⟨rfl, L4, lv4, e4, S4⟩
                  clear S3 hc0 hcf
                  have hc0 := S4.M.BA.cell; have hcf := S4.M.BA.frozen
                  have o5 := S4.M.M.o5
                  have X4 := S4.M.M.X
                  go_wp2_with (at_builtin; refine wpList_append_lies _ rfl _ _ 50 rfl base 54 i0 _ 3 24 Try.underlying50 hi0 hz0 hz1 hz2 rfl (by decide) _ xs.length (outRow xs) rfl (X4.alloc _) ⟨W4.heap.size, 0, none⟩ 1 1 [.int .u32 h, .int .u16 p, .string t] rfl rfl ?c1 ?c2 (by decide) ?c3 ?c4 ?c5 (W4.heap.size + 1) ?c6 ?_)
                  case c1 => exact World.news_of_block (heap_alloc_new W4 _)
                  case c2 => simp [Value.oneCell']
                  case c3 => unfold maxLen; omega
                  case c4 => omega
                  case c5 => simp; omega
                  case c6 => simp
                  intro gg cap' W5 ho hg hlg hltg
                  have S5 := S4.grewX (o := ⟨h, p, t⟩) ho hg hlg
                  clear S4 X4 ho hg hlg hltg hc0 hcf
                  go_wp2_with fail
                  go_meet
                  case rel => exact ⟨ev2 + 1, L4, _, _, _, by omega, S5⟩
                · go_wp2_with fail
                  refine (bt_add_err _ _ _ _ _ _ _ _ _ _ _ _ _ _ _ _ _ _ _ _ S3 h p t hm2 (by rw [hz]; exact hz0)).mono ?_
                  rintro e W4 ⟨rfl, hb⟩
                  have S4 := S3.below hb
                  rw [hz]
                  clear S3 hc0 hcf hb
                  go_wp2_with fail
                  go_meet
                  case rel => exact ⟨ev2, L, lv, es, xs, by omega, S4⟩
            case rest =>
              clear S hc0 hcf hev hev2 hev3 hcn hle hxl
              obtain ⟨ev4, L, lv, es, xs, hev4, S⟩ := hcut
              obtain ⟨a11, c11, h11⟩ := own_slice S.M.M.X
              subst h11
              have hcn := S.l.cnt.1
              have hnx := S.l.nx
              have hle := S.lm
              simp only [List.length_nil, Nat.add_zero] at hnx
              have HNX := Lib.hid hnx
              clear hnx
              go_wp2_with fail
              go_loopg [117] os.length (fun g t117 wx => ∃ (i : Nat) (L : List Buf), t117 = .int .i64 i ∧ i + g = os.length ∧ Bt w wx pb B n ev4 bb base most A0 #[.bool f, .int .u32 h, .int .u16 p, .string t, .int .u8 o] L lv (.slice a11 xs.length c11) (.slice ao os.length co) es xs [] os (os.drop i))
              case atStart => exact ⟨0, L, rfl, by omega, S⟩
              case round =>
                clear S
                obtain ⟨i, L, rfl, hi, S⟩ := hrel
                have HI := Lib.hid hi
                cases gk with
                | zero =>
                  have hi' : ¬ (i : Int) < os.length := by omega
                  have hie : i = os.length := by omega
                  clear hi
                  rw [hie, List.drop_length] at S
                  clear hie
                  have hxl2 : xs.length ≤ 64 := by have := HNX.out; omega
                  have hle2 := Lib.hid hle
                  clear hle hcn
                  have hfr : (heldL L n).length = xs.length := by rw [S.l.G.free, HNX.out]; simp
                  have HFR := Lib.hid hfr
                  clear hfr
                  go_wp2_with fail
                  refine (len_any bb pb most base lv es _ S.M.M.A).mono ?_
                  rintro e W2 ⟨rfl, hb⟩
                  have S2 := S.below hb
                  rw [← HNX.out]
                  clear S hb
                  go_wp2_with fail
                  refine (full_any bb pb most base lv es _ S2.M.M.A).mono ?_
                  rintro e W3 ⟨rfl, hb⟩
                  have S3 := S2.below hb
                  have hdec : decide (most ≤ es.length) = decide ((xs.length : Int) = (most : Int)) := by
                    apply decide_eq_decide.2
                    have := HNX.out
                    have := hle2.out
                    omega
                  rw [hdec]
                  clear S2 hb hdec
                  go_wp2_with fail
                  refine (held_any pb B n ev4 L _ S3.M.M.P).mono ?_
                  rintro e W4 ⟨v4, rfl, ho4, hb⟩
                  have S4 := S3.below hb
                  obtain ⟨a4, c4, rfl⟩ := own_slice ho4
                  rw [HFR.out]
                  clear S3 hb ho4
                  go_wp2_with fail
                  go_roundg g
                  case rel => exact ⟨k + 1, ev4, L, lv, es, xs, by simp, by have := HK.out; omega, by omega, S4.M.M, S4.l, S4.HB, hle2.out⟩
                  case measure => omega
                | succ g3 =>
                  have hi' : (i : Int) < os.length := by omega
                  have hil : i < os.length := by omega
                  clear hi
                  obtain ⟨gz, cz, hvz, _, _, hcz⟩ := own_reads S.M.Z (by omega) (by decide)
                  simp only [Value.slice.injEq] at hvz
                  obtain ⟨rfl, _, rfl⟩ := hvz
                  obtain ⟨q, hq⟩ : ∃ q, os[i] = q := ⟨_, rfl⟩
                  have hdr : os.drop i = q :: os.drop (i + 1) := by rw [List.drop_eq_getElem_cons hil, hq]
                  have hcq := (hcz i (by omega)).trans (show (nums os)[i]? = some (.int .i64 (q : Int)) by simp [nums, List.getElem?_eq_getElem hil, hq])
                  rw [hdr] at S
                  clear hcz hdr hq
                  go_wp2_with fail
                  refine (bt_read _ _ _ _ _ _ _ _ _ _ _ _ _ _ _ _ _ _ _ _ _ S).mono ?_
                  rintro e W2 ⟨rfl, hb⟩
                  have S2 := S.below hb
                  clear S hb hcq
                  go_wp2_with fail
                  refine (bt_put _ _ _ _ _ _ _ _ _ _ _ _ _ _ _ _ _ _ _ _ _ S2).mono ?_
                  rintro e W3 ⟨rfl, L3, S3⟩
                  clear S2
                  go_wp2_with fail
                  go_roundg g3
                  case rel => exact ⟨i + 1, L3, by simp, by have := HI.out; omega, S3⟩
                  case measure => omega
          | succ g2 =>
            have hj' : (j : Int) < r := by omega
            clear hj
            by_cases hfull : es.length + os.length = n
            · go_wp2_with fail
              refine (bt_take_none _ _ _ _ _ _ _ _ _ _ _ _ _ _ _ _ _ _ _ _ S hfull).mono ?_
              rintro e W2 ⟨rfl, hb⟩
              have S2 := S.below hb
              clear S hb
              go_wp2_with fail
              go_roundg g2
              case rel => exact ⟨j + 1, ev2, L, os, by simp, by have := HJ.out; omega, by omega, S2⟩
              case measure => omega
            · go_wp2_with fail
              refine (bt_take_ok _ _ _ _ _ _ _ _ _ _ _ _ _ _ _ _ _ _ _ _ S (by omega) (by omega)).mono ?_
              rintro e W2 ⟨q, L2, rfl, S2⟩
              have o5 := S2.M.M.o5
              have Z2 := S2.M.Z
              clear S
              go_wp2_with (at_builtin; refine wpList_append_lies _ rfl _ _ 37 rfl base 3 i3 _ 1 8 Try.underlying37 hi3 hy0 hy1 hy2 rfl (by decide) _ os.length (nums os) rfl (Z2.alloc _) ⟨W2.heap.size, 0, none⟩ 1 1 [.int .i64 q] rfl rfl ?c1 ?c2 (by decide) ?c3 ?c4 ?c5 (W2.heap.size + 1) ?c6 ?_)
              case c1 => exact World.news_of_block (heap_alloc_new W2 _)
              case c2 => simp [Value.oneCell']
              case c3 => unfold maxLen; omega
              case c4 => omega
              case c5 => simp; omega
              case c6 => simp
              intro gg cap' W5 ho hg hlg hltg
              have S5 := S2.grewZ ho hg hlg
              clear S2 Z2 ho hg hlg hltg
              go_wp2_with fail
              go_roundg g2
              case rel => exact ⟨j + 1, ev2 + 1, L2, os ++ [q], by simp, by have := HJ.out; omega, by omega, S5⟩
              case measure => omega
end Go.Proofs.Ytkfgbaieghlhkaa
