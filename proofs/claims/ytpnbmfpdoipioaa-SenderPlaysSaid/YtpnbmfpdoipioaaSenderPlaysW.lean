/- SenderPlays: the walk. -/
import Derived.Test.YtpnbmfpdoipioaaPlayStore
import Derived.Test.YtpnbmfpdoipioaaSenderEndsW
import Derived.Test.YtpnbmfpdoipioaaTyped
import Derived.Test.YtpnbmfpdoipioaaPut
namespace Go.Proofs.Ytpnbmfpdoipioaa
open Go.RowKit

theorem sfirst_any (v : Value) (last : Nat) (l : List SSt) (x : SSt) (now : ByteArray) (w : World) (S : SenderAt w v l now last) (hx : l.getD 0 default = x) : Calls Try.prog 22 #[v] w fun e w' => e = .returned (.string x.val) ∧ Below w.heap.size w w' := by
  obtain ⟨b, off, cap, rfl, _, _, L, _⟩ := S; rw [← hx]; exact first_any b off cap last l now w L
theorem sqv_any (v : Value) (last : Nat) (l : List SSt) (q : Bool) (now : ByteArray) (w : World) (S : SenderAt w v l now last) (hq : quietB l now = q) : Calls Try.prog 15 #[v] w fun e w' => e = .returned (.bool q) ∧ Below w.heap.size w w' := by
  rw [← hq]; exact sq_any v last l now w S
theorem SenderAt.smalls {w : World} {v : Value} {l : List SSt} {now : ByteArray} {last : Nat} (h : SenderAt w v l now last) : (l.getD 0 default).val.size ≤ 1000 ∧ (topS l).val.size ≤ 1000 := by
  obtain ⟨_, _, _, _, _, _, L, _⟩ := h
  exact ⟨(L.small 0 L.pos.1).2.2, (top_small L).2.2⟩
theorem run_neq_instr (a b c d : Int) (s : ByteArray) (w : World) : (binOp .neq 38 (IV a b c d s) (IV a b c d s)).run Try.prog w = .ok (.bool false) w := by
  simp [go_sem, Program.fieldsOf, Try.underlying38, Try.underlying29, Try.underlying9]
/-- The round's state: both variables, and the turn's own block. -/
def PlayAt (w0 w : World) (b5 b6 A : Nat) (x : SAct) (l : List SSt) (cur : ByteArray) (last : Nat) : Prop :=
  ∃ (a : Option Addr) (m c : Nat) (a' : Option Addr) (m' c' : Nat), Both w0 w b5 b6 l cur last a m c a' m' c' ∧ Blk w A #[.int .u8 x.d, .string x.t, .int .u64 x.n, .int .u64 x.la, .int .u64 x.wt, .int .u64 x.bt] 35

set_option maxHeartbeats 64000000 in
set_option maxRecDepth 20000 in
theorem plays_walk (first : ByteArray) (b off len cap : Nat) (ao : Option Addr) (acts : List SAct) (w : World) (hf : first.size ≤ 100) (hl : len ≤ 60) (hao : 0 < len → ao = some ⟨b, off, none⟩) (hacts : SActsAt w b off len acts) :
    Calls Try.prog 5 #[.string first, .slice ao len cap] w fun e w' => e = .returned (.bool true) ∧ Below w.heap.size w w' := by
  have g1 : ¬ (60 : Int) < len := by omega
  have g2 : ¬ (100 : Int) < first.size := by omega
  go_enter Try.func5, Try.ntmps5
  go_wp2_with fail
  refine (awake15 _).mono ?_
  rintro e w0 ⟨rfl, HB0⟩
  have HBs0 := HB0.size
  go_wp2_with fail
  refine (rule_any _).mono ?_
  rintro e w1 ⟨rfl, hb⟩
  have HB1 := Below.thn HB0 hb HBs0
  have HBs1 := HB1.size
  go_wp2_with fail
  refine (new_any first _ (by omega)).mono ?_
  rintro e w2 ⟨v, rfl, S2, hb⟩
  have HB2 := Below.thn HB1 hb HBs1
  have HBs2 := HB2.size
  obtain ⟨sa, sn, sc, hsl⟩ := S2.form
  subst hsl
  clear HB1 HB0 hb
  go_wp2_with fail
  refine (rnew_any first _ (by omega)).mono ?_
  rintro e w3 ⟨v, rfl, Q3, hb⟩
  have S3 := S2.below hb
  have HB3 := Below.thn HB2 hb HBs2
  have HBs3 := HB3.size
  obtain ⟨qa, qn, qc, hql⟩ := Q3.form
  subst hql
  clear HB2 S2 hb
  go_wp2_with fail
  have R3 : Rise [⟨0, 0, first⟩] 0 0 0 := ⟨by simp, fun j hj => by
    obtain rfl : j = 0 := by simp at hj; exact hj
    rfl, Nat.le_refl _, Nat.le_refl _, Nat.le_refl _⟩
  have V3 : Both w ((w3.alloc (.cells #[fDiff, fSame, .slice sa sn sc, .string first, .int .u64 0] 31)).alloc (.cells #[.slice qa qn qc, .string first, .int .u64 0] 50)) w3.heap.size (w3.heap.size + 1) [⟨0, 0, first⟩] first 0 sa sn sc qa qn qc :=
    ⟨(Blk.new w3 _ _).alloc, S3.below (by (repeat (first | (with_reducible assumption) | (with_reducible exact Below.refl _ _) | with_reducible apply bl_drewN | with_reducible apply Below.drew | (with_reducible apply bl_alloc; focus (first | (simp; done) | (simp; omega) | omega)) | (with_reducible apply bl_set; focus (first | (simp; done) | (simp; omega) | omega))))), Blk.new' (by simp), Q3.below (by (repeat (first | (with_reducible assumption) | (with_reducible exact Below.refl _ _) | with_reducible apply bl_drewN | with_reducible apply Below.drew | (with_reducible apply bl_alloc; focus (first | (simp; done) | (simp; omega) | omega)) | (with_reducible apply bl_set; focus (first | (simp; done) | (simp; omega) | omega))))), by (repeat (first | (with_reducible assumption) | (with_reducible exact Below.refl _ _) | with_reducible apply bl_drewN | with_reducible apply Below.drew | (with_reducible apply bl_alloc; focus (first | (simp; done) | (simp; omega) | omega)) | (with_reducible apply bl_set; focus (first | (simp; done) | (simp; omega) | omega)))), by omega, by omega, by omega⟩
  obtain ⟨b5, hb5⟩ : ∃ b5, w3.heap.size = b5 := ⟨_, rfl⟩
  generalize (w3.alloc (.cells #[fDiff, fSame, .slice sa sn sc, .string first, .int .u64 0] 31)).alloc (.cells #[.slice qa qn qc, .string first, .int .u64 0] 50) = W3 at *
  rw [hb5] at V3
  rw [hb5]
  clear hb5 S3 Q3 HB3
  obtain ⟨b6, hb6⟩ : ∃ b6, b5 + 1 = b6 := ⟨_, rfl⟩
  rw [hb6] at V3
  rw [hb6]
  clear hb6
  go_loopg [7, 38] len (fun g t7 t38 wr => ∃ (k tm last : Nat) (l : List SSt) (cur : ByteArray) (a : Option Addr) (m c : Nat) (a' : Option Addr) (m' c' : Nat), t7 = .int .u64 tm ∧ t38 = .int .i64 k ∧ k + g = len ∧ tm ≤ 1125899906842624 * k ∧ Rise l last tm k ∧ Both w wr b5 b6 l cur last a m c a' m' c')
  case atStart => exact ⟨0, 0, 0, _, first, _, _, _, _, _, _, rfl, rfl, by omega, by omega, R3, V3⟩
  case round =>
    clear R3 V3
    obtain ⟨k, tm, last, l, cur, a, m, c, a', m', c', rfl, rfl, hk, htm, R, V⟩ := hrel
    have HB := V.HB
    have HBs := HB.size
    have HK := Lib.hid hk
    cases gk with
    | zero =>
      have hk' : ¬ (k : Int) < len := by omega
      clear hk V
      go_wp2
      go_ret
      exact ⟨rfl, HB⟩
    | succ g =>
      have hk' : (k : Int) < len := by omega
      have hkn : k < len := by omega
      clear hk
      obtain rfl := hao (by omega)
      have ha := hacts.below HB
      have hc0 := ha.c0 k hkn; have hc1 := ha.c1 k hkn; have hc2 := ha.c2 k hkn; have hc3 := ha.c3 k hkn; have hc4 := ha.c4 k hkn; have hc5 := ha.c5 k hkn
      have hsm := ha.small k hkn
      generalize acts.getD k default = x at hc0 hc1 hc2 hc3 hc4 hc5 hsm
      obtain ⟨d, t, n, la, wt, bt⟩ := x
      simp only at hc0 hc1 hc2 hc3 hc4 hc5 hsm
      clear ha
      by_cases hbig : 100 < t.size
      · have hbig' : (100 : Int) < t.size := by omega
        clear V R
        go_wp2
        go_ret
        exact ⟨rfl, by (repeat (first | (with_reducible assumption) | (with_reducible exact Below.refl _ _) | with_reducible apply bl_drewN | with_reducible apply Below.drew | (with_reducible apply bl_alloc; focus (first | (simp; done) | (simp; omega) | omega)) | (with_reducible apply bl_set; focus (first | (simp; done) | (simp; omega) | omega))))⟩
      · have hbig' : ¬ (100 : Int) < t.size := by omega
        obtain ⟨r1, hr1⟩ : ∃ r, r = la % 1125899906842624 := ⟨_, rfl⟩
        have hr1t : (la : Int).tmod 1125899906842624 = (r1 : Int) := by rw [hr1]; rfl
        have hr1l : r1 < 1125899906842624 := by omega
        obtain ⟨T, hT⟩ : ∃ T, T = tm + r1 := ⟨_, rfl⟩
        have hadd : (tm : Int) + r1 = (T : Int) := by omega
        have htT : T ≤ 1125899906842624 * (k + 1) := by omega
        have hT2 : T ≤ 100000000000000000 := by omega
        have hTm : tm ≤ T := by omega
        obtain ⟨r4, hr4⟩ : ∃ r, r = d % 4 := ⟨_, rfl⟩
        have hr4t : (d : Int).tmod 4 = (r4 : Int) := by rw [hr4]; rfl
        obtain ⟨rn, hrn⟩ : ∃ r, r = n % 12 := ⟨_, rfl⟩
        have hrnt : (n : Int).tmod 12 = (rn : Int) := by rw [hrn]; rfl
        clear hr1 hr4 hrn hbig hT
        have B5c := V.B5.cell; have B6c := V.B6.cell; have B5l := V.B5.lt; have B6l := V.B6.lt
        go_upto_block 2 with fail
        refine wp_abs1 (n := wr.heap.size) (w := wr) wr.heap.size 35 (by (repeat (first | (with_reducible assumption) | (with_reducible exact Below.refl _ _) | with_reducible apply bl_drewN | with_reducible apply Below.drew | (with_reducible apply bl_alloc; focus (first | (simp; done) | (simp; omega) | omega)) | (with_reducible apply bl_set; focus (first | (simp; done) | (simp; omega) | omega))))) (by (repeat (first | (with_reducible assumption) | (with_reducible apply Blk.new'; (first | (with_reducible rfl) | (simp; done))) | with_reducible apply Blk.alloc | with_reducible apply Blk.set | ((with_reducible apply Blk.set_ne); focus (first | (simp; done) | (simp; omega))) | with_reducible apply Blk.drewN | with_reducible apply Blk.drew))) (fun W1 hb1 BA => ?_)
        have V1 := V.below hb1
        have hA5 : wr.heap.size ≠ b5 := by omega
        have hA6 : wr.heap.size ≠ b6 := by omega
        have R1 := R.mono (tm' := T) (k' := k) hTm (Nat.le_refl _)
        have hgA := HBs
        clear V R HB hb1 hc0 hc1 hc2 hc3 hc4 hc5 B5c B6c B5l B6l
        generalize wr.heap.size = A at *
        go_cut [10, 11, 14, 18] (fun s10 s11 s14 s18 wx => ∃ (l2 : List SSt) (cur2 : ByteArray) (last2 : Nat), Rise l2 last2 T (k + 1) ∧ PlayAt w wx b5 b6 A ⟨d, t, n, la, wt, bt⟩ l2 cur2 last2)
        case first =>
          have hne56 := V1.ne; have hg5 := V1.g5; have hg6 := V1.g6
          rcases (by omega : r4 = 0 ∨ r4 = 1 ∨ 2 ≤ r4) with hz | hz | hz
          · as_aux_lemma =>
            subst hz
            have B5c := V1.B5.cell; have BAc := BA.cell
            go_wp2_with fail
            refine (set_any _ _ _ t _ _ V1.S (by omega)).mono ?_
            rintro e W2 ⟨v2, rfl, S2, hb⟩
            obtain ⟨a2, m2, c2, h2⟩ := S2.form
            subst h2
            have V2 := V1.below hb
            have BA2 := BA.below hb
            clear V1 BA B5c BAc hb
            have B5c := V2.B5.cell; have B5f := V2.B5.frozen; have BAc := BA2.cell; have B6c := V2.B6.cell; have B6f := V2.B6.frozen
            have B5l := V2.B5.lt; have B6l := V2.B6.lt; have BAl := BA2.lt
            go_wp2_with fail
            have W := both_set V2 BA2 hA5 hA6 S2 (by omega)
            clear B5c B5f B6c B6f BAc V2 BA2 S2
            go_meet
            case rel => exact ⟨l, t, last, R1.mono (Nat.le_refl _) (by omega), _, _, _, _, _, _, W.1, W.2⟩
          · as_aux_lemma =>
            subst hz
            have B5w := V1.B5; have B6w := V1.B6
            have HV1 := Lib.hid V1
            clear V1
            go_wp2_with fail
            refine wp_region_typed 10 (fun k => match k with  | _ => []) (fun k => match k with | 4 => some ⟨(Option Addr × Nat × Nat), ((none, 0, 0)), (fun x => SV (.slice x.1 x.2.1 x.2.2) cur last), (fun x w => SenderAt w (SV (.slice x.1 x.2.1 x.2.2) cur last) (ackL l rn) cur last), (fun x w w' h hb => h.below hb)⟩ | 9 => some ⟨(Option Addr × Nat × Nat), ((none, 0, 0)), (fun x => QV (.slice x.1 x.2.1 x.2.2) cur last), (fun x w => RefAt w (QV (.slice x.1 x.2.1 x.2.2) cur last) (ackL l rn) cur last), (fun x w w' h hb => h.below hb)⟩ | _ => none) (by kernel_rfl) (by kernel_rfl) ?_
            rw [show List.range 10 = [0, 1, 2, 3, 4, 5, 6, 7, 8, 9] from rfl]
            first
              | (refine ty_skip rfl rfl ?_; (try simp only [Act.put, List.setIfInBounds_toArray, List.set_cons_zero, List.set_cons_succ]))
              | (refine ty_pure rfl rfl rfl ?_; apply Exists.intro; refine ⟨fun wq hq hk => ?_, ?_⟩
                 · have f0 := hq.blk B5w; have f1 := hq.blk B6w; have f2 := hq.blk BA; simp only [pureAt]; go_simp; (try simp only [↓IntWalk.iteOmega]); (try go_bits); (try simp only [pureUpon]); (first | done | exact ⟨rfl, rfl⟩ | exact ⟨trivial, rfl⟩ | rfl)
                 (try simp only [Act.put, List.setIfInBounds_toArray, List.set_cons_zero, List.set_cons_succ]))
            first
              | (refine ty_skip rfl rfl ?_; (try simp only [Act.put, List.setIfInBounds_toArray, List.set_cons_zero, List.set_cons_succ]))
              | (refine ty_pure rfl rfl rfl ?_; apply Exists.intro; refine ⟨fun wq hq hk => ?_, ?_⟩
                 · have f0 := hq.blk B5w; have f1 := hq.blk B6w; have f2 := hq.blk BA; simp only [pureAt]; go_simp; (try simp only [↓IntWalk.iteOmega]); (try go_bits); (try simp only [pureUpon]); (first | done | exact ⟨rfl, rfl⟩ | exact ⟨trivial, rfl⟩ | rfl)
                 (try simp only [Act.put, List.setIfInBounds_toArray, List.set_cons_zero, List.set_cons_succ]))
            first
              | (refine ty_skip rfl rfl ?_; (try simp only [Act.put, List.setIfInBounds_toArray, List.set_cons_zero, List.set_cons_succ]))
              | (refine ty_pure rfl rfl rfl ?_; apply Exists.intro; refine ⟨fun wq hq hk => ?_, ?_⟩
                 · have f0 := hq.blk B5w; have f1 := hq.blk B6w; have f2 := hq.blk BA; simp only [pureAt]; go_simp; (try simp only [↓IntWalk.iteOmega]); (try go_bits); (try simp only [pureUpon]); (first | done | exact ⟨rfl, rfl⟩ | exact ⟨trivial, rfl⟩ | rfl)
                 (try simp only [Act.put, List.setIfInBounds_toArray, List.set_cons_zero, List.set_cons_succ]))
            first
              | (refine ty_skip rfl rfl ?_; (try simp only [Act.put, List.setIfInBounds_toArray, List.set_cons_zero, List.set_cons_succ]))
              | (refine ty_pure rfl rfl rfl ?_; apply Exists.intro; refine ⟨fun wq hq hk => ?_, ?_⟩
                 · have f0 := hq.blk B5w; have f1 := hq.blk B6w; have f2 := hq.blk BA; simp only [pureAt]; go_simp; (try simp only [↓IntWalk.iteOmega]); (try go_bits); (try simp only [pureUpon]); (first | done | exact ⟨rfl, rfl⟩ | exact ⟨trivial, rfl⟩ | rfl)
                 (try simp only [Act.put, List.setIfInBounds_toArray, List.set_cons_zero, List.set_cons_succ]))
            refine ty_rel rfl rfl _ rfl (fun wq hq hk => ?_) ?_
            · have f0 := hq.blk B5w; have f1 := hq.blk B6w; have f2 := hq.blk BA; simp only [relAt]; go_simp; (try simp only [relUpon]); (go_at_call 14; refine (acked_any _ _ rn _ _ _ (HV1.out.S.below hq.out)).mono ?_; rintro e w9 ⟨v9, rfl, S9, hb9⟩; obtain ⟨a9, m9, c9, h9⟩ := S9.form; subst h9; exact ⟨_, rfl, .mk hb9 (a9, m9, c9) rfl S9⟩)
            rintro ⟨a9, m9, c9⟩
            (try simp only [Act.put, List.setIfInBounds_toArray, List.set_cons_zero, List.set_cons_succ])
            first
              | (refine ty_skip rfl rfl ?_; (try simp only [Act.put, List.setIfInBounds_toArray, List.set_cons_zero, List.set_cons_succ]))
              | (refine ty_pure rfl rfl rfl ?_; apply Exists.intro; refine ⟨fun wq hq hk => ?_, ?_⟩
                 · have f0 := hq.blk B5w; have f1 := hq.blk B6w; have f2 := hq.blk BA; simp only [pureAt]; go_simp; (try simp only [↓IntWalk.iteOmega]); (try go_bits); (try simp only [pureUpon]); (first | done | exact ⟨rfl, rfl⟩ | exact ⟨trivial, rfl⟩ | rfl)
                 (try simp only [Act.put, List.setIfInBounds_toArray, List.set_cons_zero, List.set_cons_succ]))
            first
              | (refine ty_skip rfl rfl ?_; (try simp only [Act.put, List.setIfInBounds_toArray, List.set_cons_zero, List.set_cons_succ]))
              | (refine ty_pure rfl rfl rfl ?_; apply Exists.intro; refine ⟨fun wq hq hk => ?_, ?_⟩
                 · have f0 := hq.blk B5w; have f1 := hq.blk B6w; have f2 := hq.blk BA; simp only [pureAt]; go_simp; (try simp only [↓IntWalk.iteOmega]); (try go_bits); (try simp only [pureUpon]); (first | done | exact ⟨rfl, rfl⟩ | exact ⟨trivial, rfl⟩ | rfl)
                 (try simp only [Act.put, List.setIfInBounds_toArray, List.set_cons_zero, List.set_cons_succ]))
            first
              | (refine ty_skip rfl rfl ?_; (try simp only [Act.put, List.setIfInBounds_toArray, List.set_cons_zero, List.set_cons_succ]))
              | (refine ty_pure rfl rfl rfl ?_; apply Exists.intro; refine ⟨fun wq hq hk => ?_, ?_⟩
                 · have f0 := hq.blk B5w; have f1 := hq.blk B6w; have f2 := hq.blk BA; simp only [pureAt]; go_simp; (try simp only [↓IntWalk.iteOmega]); (try go_bits); (try simp only [pureUpon]); (first | done | exact ⟨rfl, rfl⟩ | exact ⟨trivial, rfl⟩ | rfl)
                 (try simp only [Act.put, List.setIfInBounds_toArray, List.set_cons_zero, List.set_cons_succ]))
            first
              | (refine ty_skip rfl rfl ?_; (try simp only [Act.put, List.setIfInBounds_toArray, List.set_cons_zero, List.set_cons_succ]))
              | (refine ty_pure rfl rfl rfl ?_; apply Exists.intro; refine ⟨fun wq hq hk => ?_, ?_⟩
                 · have f0 := hq.blk B5w; have f1 := hq.blk B6w; have f2 := hq.blk BA; simp only [pureAt]; go_simp; (try simp only [↓IntWalk.iteOmega]); (try go_bits); (try simp only [pureUpon]); (first | done | exact ⟨rfl, rfl⟩ | exact ⟨trivial, rfl⟩ | rfl)
                 (try simp only [Act.put, List.setIfInBounds_toArray, List.set_cons_zero, List.set_cons_succ]))
            refine ty_rel rfl rfl _ rfl (fun wq hq hk => ?_) ?_
            · have f0 := hq.blk B5w; have f1 := hq.blk B6w; have f2 := hq.blk BA; simp only [relAt]; go_simp; (try simp only [relUpon]); (go_at_call 18; refine (racked_any _ _ rn _ _ _ (HV1.out.Q.below hq.out)).mono ?_; rintro e w9 ⟨v9, rfl, S9, hb9⟩; obtain ⟨a9, m9, c9, h9⟩ := S9.form; subst h9; exact ⟨_, rfl, .mk hb9 (a9, m9, c9) rfl S9⟩)
            rintro ⟨a8, m8, c8⟩
            (try simp only [Act.put, List.setIfInBounds_toArray, List.set_cons_zero, List.set_cons_succ])
            refine ty_nil ?_
            simp only [List.drop_succ_cons, List.drop_zero]
            intro W8 hw8 hΓ
            have Q8 := hΓ _ (.head _)
            have S8 := hΓ _ (.tail _ (.head _))
            have V8 := HV1.out.below hw8.out
            have BA8 := BA.below hw8.out
            clear hΓ hw8 HV1 BA B5w B6w
            refine wpList_put rfl 31 _ _ rfl b5 _ _ 31 rfl rfl V8.B5 (by kernel_rfl) rfl (by first | rfl | decide | simp [Value.oneCell']) (fun W9 hp9 B9 => ?_)
            (try simp only [Act.put, List.setIfInBounds_toArray, List.set_cons_zero, List.set_cons_succ])
            refine wpList_put rfl 50 _ _ rfl b6 _ _ 50 rfl rfl (hp9.blk (Ne.symm hne56) V8.B6) (by kernel_rfl) rfl (by first | rfl | decide | simp [Value.oneCell']) (fun W10 hp10 B10 => ?_)
            (try simp only [Act.put, List.setIfInBounds_toArray, List.set_cons_zero, List.set_cons_succ])
            have VV := both_laid V8 S8 Q8 (hp10.blk hne56 B9) B10 (fun q h5 h6 => (hp10.keep q h6).trans (hp9.keep q h5)) (hp10.size.trans hp9.size) (hp10.below hg6 (hp9.below hg5 V8.HB))
            have VA := hp10.blk hA6 (hp9.blk hA5 BA8)
            clear hp9 hp10 B9 B10 V8 BA8 S8 Q8
            go_wp2_with fail
            go_meet
            case rel => exact ⟨ackL l rn, cur, last, (R1.ack rn).mono (Nat.le_refl _) (by omega), _, _, _, _, _, _, VV, VA⟩
          · as_aux_lemma =>
            have B5c := V1.B5.cell; have B6c := V1.B6.cell; have BAc := BA.cell
            have B5l := V1.B5.lt; have B6l := V1.B6.lt; have BAl := BA.lt
            have hz0 : ¬ (r4 : Int) = 0 := by omega
            have hz1 : ¬ (r4 : Int) = 1 := by omega
            have hw := hsm.2.2.2.1
            have hbb := hsm.2.2.2.2
            obtain ⟨D, hD⟩ : ∃ D, dueU l cur last wt bt = D := ⟨_, rfl⟩
            have HD := Lib.hid hD
            clear hD
            have BA1 := BA
            go_wp2_with fail
            refine (rdue_any _ _ wt bt _ _ _ V1.Q hw hbb).mono ?_
            rintro e W2 ⟨rfl, hb⟩
            rw [HD.out]
            have V2 := V1.below hb
            have BA2 := BA1.below hb
            clear V1 BA1 B5c B6c BAc B5l B6l BAl hb
            have B5c := V2.B5.cell; have B6c := V2.B6.cell; have BAc := BA2.cell
            have B5l := V2.B5.lt; have B6l := V2.B6.lt; have BAl := BA2.lt
            go_wp2_with fail
            refine (sdue_any _ _ wt bt _ _ _ V2.S hw hbb).mono ?_
            rintro e W3 ⟨rfl, hb⟩
            rw [HD.out]
            have V3 := V2.below hb
            have BA3 := BA2.below hb
            clear V2 BA2 B5c B6c BAc B5l B6l BAl hb
            have B5c := V3.B5.cell; have B6c := V3.B6.cell; have BAc := BA3.cell
            have B5l := V3.B5.lt; have B6l := V3.B6.lt; have BAl := BA3.lt
            go_wp2_with fail
            refine (snum_any _ _ _ _ _ V3.S).mono ?_
            rintro e W4 ⟨vn, rfl, hn, hb⟩
            obtain ⟨na, nc, rfl⟩ := own_slice hn
            clear hn
            have V4 := V3.below hb
            have BA4 := BA3.below hb
            clear V3 BA3 B5c B6c BAc B5l B6l BAl hb
            have B5c := V4.B5.cell; have B6c := V4.B6.cell; have BAc := BA4.cell
            have B5l := V4.B5.lt; have B6l := V4.B6.lt; have BAl := BA4.lt
            have hnum := R1.top
            by_cases hdd : T < D
            · as_aux_lemma =>
              have hdi : ¬ (D : Int) ≤ T := by omega
              have hnz := run_neq_instr 0 0 0 0 ⟨#[]⟩
              go_wp2_with fail
              refine (next_not _ _ _ _ T wt bt n _ V4.S hw hbb (by rw [HD.out]; exact hdd)).mono ?_
              rintro e W5 ⟨rfl, hb⟩
              have S5 := V4.S.below hb
              have V5 := V4.below hb
              have BA5 := BA4.below hb
              clear V4 BA4 B5c B6c BAc B5l B6l BAl hb
              have B5c := V5.B5.cell; have B6c := V5.B6.cell; have BAc := BA5.cell
              have B5l := V5.B5.lt; have B6l := V5.B6.lt; have BAl := BA5.lt
              have m1 := V5.B5.lt
              have m2 := V5.B6.lt
              go_wp2_with fail
              refine (rnext_not _ _ T wt bt _ _ _ (V5.Q.below (by (repeat (first | (with_reducible assumption) | (with_reducible exact Below.refl _ _) | with_reducible apply bl_drewN | with_reducible apply Below.drew | (with_reducible apply bl_alloc; focus (first | (simp; done) | (simp; omega) | omega)) | (with_reducible apply bl_set; focus (first | (simp; done) | (simp; omega) | omega)))))) hw hbb (by rw [HD.out]; exact hdd)).mono ?_
              rintro e W6 ⟨rfl, hb⟩
              have Q6 := (V5.below (w' := W6) (Below.thn (by (repeat (first | (with_reducible assumption) | (with_reducible exact Below.refl _ _) | with_reducible apply bl_drewN | with_reducible apply Below.drew | (with_reducible apply bl_alloc; focus (first | (simp; done) | (simp; omega) | omega)) | (with_reducible apply bl_set; focus (first | (simp; done) | (simp; omega) | omega))))) hb)).Q
              have hb' : Below W5.heap.size W5 W6 := Below.thn (by (repeat (first | (with_reducible assumption) | (with_reducible exact Below.refl _ _) | with_reducible apply bl_drewN | with_reducible apply Below.drew | (with_reducible apply bl_alloc; focus (first | (simp; done) | (simp; omega) | omega)) | (with_reducible apply bl_set; focus (first | (simp; done) | (simp; omega) | omega))))) hb
              have Bx := Blk.below (b := W5.heap.size) (t := 31) (by (repeat (first | (with_reducible assumption) | (with_reducible apply Blk.new'; (first | (with_reducible rfl) | (simp; done))) | with_reducible apply Blk.alloc | with_reducible apply Blk.set | ((with_reducible apply Blk.set_ne); focus (first | (simp; done) | (simp; omega))) | with_reducible apply Blk.drewN | with_reducible apply Blk.drew))) hb
              have Bi := Blk.below (b := W5.heap.size + 1) (t := 38) (by (repeat (first | (with_reducible assumption) | (with_reducible apply Blk.new'; (first | (with_reducible rfl) | (simp; done))) | with_reducible apply Blk.alloc | with_reducible apply Blk.set | ((with_reducible apply Blk.set_ne); focus (first | (simp; done) | (simp; omega))) | with_reducible apply Blk.drewN | with_reducible apply Blk.drew))) hb
              have V6 := V5.below hb'
              have BA6 := BA5.below hb'
              have S6 := S5.below hb'
              have m3 := V6.B5.lt
              have m4 := V6.B6.lt
              clear V5 BA5 S5 hb hb' B5c B6c BAc B5l B6l BAl
              have B5c := V6.B5.cell; have B6c := V6.B6.cell; have BAc := BA6.cell
              have B5l := V6.B5.lt; have B6l := V6.B6.lt; have BAl := BA6.lt
              have Bxc := Bx.cell; have Bic := Bi.cell; have Bxl := Bx.lt; have Bil := Bi.lt
              have k1 : b5 < W6.heap.size + 1 := by omega
              have k2 : b5 < W6.heap.size + 1 + 1 := by omega
              go_wp2_with fail
              refine (snum_any _ _ _ _ _ (V6.S.below (by (repeat (first | (with_reducible assumption) | (with_reducible exact Below.refl _ _) | with_reducible apply bl_drewN | with_reducible apply Below.drew | (with_reducible apply bl_alloc; focus (first | (simp; done) | (simp; omega) | omega)) | (with_reducible apply bl_set; focus (first | (simp; done) | (simp; omega) | omega))))))).mono ?_
              rintro e W7 ⟨vn, rfl, hn, hb⟩
              obtain ⟨na2, nc2, rfl⟩ := own_slice hn
              clear hn
              have hb' : Below W6.heap.size W6 W7 := Below.thn (by (repeat (first | (with_reducible assumption) | (with_reducible exact Below.refl _ _) | with_reducible apply bl_drewN | with_reducible apply Below.drew | (with_reducible apply bl_alloc; focus (first | (simp; done) | (simp; omega) | omega)) | (with_reducible apply bl_set; focus (first | (simp; done) | (simp; omega) | omega))))) hb
              have Bq := Blk.below (b := W6.heap.size) (t := 50) (by (repeat (first | (with_reducible assumption) | (with_reducible apply Blk.new'; (first | (with_reducible rfl) | (simp; done))) | with_reducible apply Blk.alloc | with_reducible apply Blk.set | ((with_reducible apply Blk.set_ne); focus (first | (simp; done) | (simp; omega))) | with_reducible apply Blk.drewN | with_reducible apply Blk.drew))) hb
              have Bf := Blk.below (b := W6.heap.size + 1) (t := 55) (by (repeat (first | (with_reducible assumption) | (with_reducible apply Blk.new'; (first | (with_reducible rfl) | (simp; done))) | with_reducible apply Blk.alloc | with_reducible apply Blk.set | ((with_reducible apply Blk.set_ne); focus (first | (simp; done) | (simp; omega))) | with_reducible apply Blk.drewN | with_reducible apply Blk.drew))) hb
              have Bt := Blk.below (b := W6.heap.size + 1 + 1) (t := 55) (by (repeat (first | (with_reducible assumption) | (with_reducible apply Blk.new'; (first | (with_reducible rfl) | (simp; done))) | with_reducible apply Blk.alloc | with_reducible apply Blk.set | ((with_reducible apply Blk.set_ne); focus (first | (simp; done) | (simp; omega))) | with_reducible apply Blk.drewN | with_reducible apply Blk.drew))) hb
              have V7 := V6.below hb'
              have BA7 := BA6.below hb'
              have S7 := S6.below hb'
              have Q7 := Q6.below hb'
              have Bx7 := Bx.below hb'
              have Bi7 := Bi.below hb'
              clear V6 BA6 S6 Q6 Bx Bi hb hb' B5c B6c BAc B5l B6l BAl Bxc Bic Bxl Bil
              have B5c := V7.B5.cell; have B6c := V7.B6.cell; have BAc := BA7.cell
              have B5l := V7.B5.lt; have B6l := V7.B6.lt; have BAl := BA7.lt
              have B5f := V7.B5.frozen; have B6f := V7.B6.frozen
              have Bxc := Bx7.cell; have Bic := Bi7.cell; have Bqc := Bq.cell; have Bfc := Bf.cell; have Btc := Bt.cell
              go_wp2_with fail
              have j1 : W5.heap.size ≠ b5 := by omega
              have j2 : W5.heap.size ≠ b6 := by omega
              have j3 : W6.heap.size ≠ b5 := by omega
              have j4 : W6.heap.size ≠ b6 := by omega
              clear Bi7 Bf Bt Bxc Bic Bqc Bfc Btc B5c B6c BAc B5f B6f B5l B6l BAl
              refine wp_pair (fun W => Blk W W5.heap.size #[fDiff, fSame, .slice a m c, .string cur, .int .u64 last] 31 ∧ Blk W W6.heap.size #[.slice a' m' c', .string cur, .int .u64 last] 50) (SV (.slice a m c) cur last) (QV (.slice a' m' c') cur last) (by kernel_rfl) (by kernel_rfl) ⟨by (repeat (first | (with_reducible assumption) | (with_reducible apply Blk.new'; (first | (with_reducible rfl) | (simp; done))) | with_reducible apply Blk.alloc | with_reducible apply Blk.set | ((with_reducible apply Blk.set_ne); focus (first | (simp; done) | (simp; omega))) | with_reducible apply Blk.drewN | with_reducible apply Blk.drew)), by (repeat (first | (with_reducible assumption) | (with_reducible apply Blk.new'; (first | (with_reducible rfl) | (simp; done))) | with_reducible apply Blk.alloc | with_reducible apply Blk.set | ((with_reducible apply Blk.set_ne); focus (first | (simp; done) | (simp; omega))) | with_reducible apply Blk.drewN | with_reducible apply Blk.drew))⟩ rfl rfl rfl rfl (fun wq hq => ?_) (fun wq hq => ?_) (fun _ _ _ h => h) (fun _ _ _ h => h) ?_
              · have f0 := hq.1.cell; go_simp
              · have f0 := hq.2.cell; go_simp
              (try simp only [Act.put, List.setIfInBounds_toArray, List.set_cons_zero, List.set_cons_succ])
              have V8 := V7.below (Below.refl _ _).drew
              have BA8 := BA7.drew
              have S8 := S7.below (Below.refl _ _).drew
              have Q8 := Q7.below (Below.refl _ _).drew
              have Bx8 := Bx7.drew
              have Bq8 := Bq.drew
              clear V7 BA7 S7 Q7 Bx7 Bq
              refine wp_put 31 _ _ rfl b5 _ _ 31 rfl rfl V8.B5 (by kernel_rfl) rfl (by first | rfl | decide | simp [Value.oneCell']) (fun W9 hp9 B9 => ⟨⟨hp9.blk j1 Bx8, hp9.blk j3 Bq8⟩, ?_⟩)
              (try simp only [Act.put, List.setIfInBounds_toArray, List.set_cons_zero, List.set_cons_succ])
              refine wp_put 50 _ _ rfl b6 _ _ 50 rfl rfl (hp9.blk (Ne.symm hne56) V8.B6) (by kernel_rfl) rfl (by first | rfl | decide | simp [Value.oneCell']) (fun W10 hp10 B10 => ⟨⟨hp10.blk j2 (hp9.blk j1 Bx8), hp10.blk j4 (hp9.blk j3 Bq8)⟩, ?_⟩)
              (try simp only [Act.put, List.setIfInBounds_toArray, List.set_cons_zero, List.set_cons_succ])
              have VV := both_laid V8 S8 Q8 (hp10.blk hne56 B9) B10 (fun q h5 h6 => (hp10.keep q h6).trans (hp9.keep q h5)) (hp10.size.trans hp9.size) (hp10.below hg6 (hp9.below hg5 V8.HB))
              have VA := hp10.blk hA6 (hp9.blk hA5 BA8)
              clear hp9 hp10 B9 B10 V8 BA8 S8 Q8 Bx8 Bq8
              go_wp2_with fail
              go_meet
              case rel => exact ⟨l, cur, last, R1.mono (Nat.le_refl _) (by omega), _, _, _, _, _, _, VV, VA⟩
            · as_aux_lemma =>
              have hdi : (D : Int) ≤ T := by omega
              go_wp2_with fail
              refine (next_ok _ _ _ _ T wt bt n _ V4.S hw hbb (by omega) (by omega) (by rw [HD.out]; exact hdd)).mono ?_
              rintro e W5 ⟨v5, rfl, S5, hb⟩
              obtain ⟨a5, m5, c5, h5⟩ := S5.form
              subst h5
              obtain ⟨nl, hnl⟩ : ∃ nl, nextL l cur T = nl := ⟨_, rfl⟩
              obtain ⟨y0, hy0⟩ : ∃ y, nl.getD 0 default = y := ⟨_, rfl⟩
              obtain ⟨yt, hyt⟩ : ∃ y, topS nl = y := ⟨_, rfl⟩
              have hys := S5.smalls
              rw [hnl] at S5 hys ⊢
              rw [hy0, hyt] at hys ⊢
              have RR := R1.next cur T
              rw [hnl] at RR
              have hnz := run_neq_instr y0.num yt.num n y0.num (y0.val ++ ⟨#[62]⟩ ++ yt.val)
              have HNL := Lib.hid hnl; have HY0 := Lib.hid hy0; have HYT := Lib.hid hyt
              clear hnl hy0 hyt
              have V5 := V4.below hb
              have BA5 := BA4.below hb
              clear V4 BA4 B5c B6c BAc B5l B6l BAl hb
              have B5c := V5.B5.cell; have B6c := V5.B6.cell; have BAc := BA5.cell
              have B5l := V5.B5.lt; have B6l := V5.B6.lt; have BAl := BA5.lt
              have m1 := V5.B5.lt
              have m2 := V5.B6.lt
              go_wp2_with fail
              refine (rnext_ok _ _ T wt bt _ _ _ (V5.Q.below (by (repeat (first | (with_reducible assumption) | (with_reducible exact Below.refl _ _) | with_reducible apply bl_drewN | with_reducible apply Below.drew | (with_reducible apply bl_alloc; focus (first | (simp; done) | (simp; omega) | omega)) | (with_reducible apply bl_set; focus (first | (simp; done) | (simp; omega) | omega)))))) hw hbb (by omega) (by omega) (by rw [HD.out]; exact hdd)).mono ?_
              rintro e W6 ⟨v6, rfl, Q6, hb⟩
              obtain ⟨a6, m6, c6, h6⟩ := Q6.form; subst h6; rw [HNL.out] at Q6 ⊢; rw [HY0.out, HYT.out]
              have hb' : Below W5.heap.size W5 W6 := Below.thn (by (repeat (first | (with_reducible assumption) | (with_reducible exact Below.refl _ _) | with_reducible apply bl_drewN | with_reducible apply Below.drew | (with_reducible apply bl_alloc; focus (first | (simp; done) | (simp; omega) | omega)) | (with_reducible apply bl_set; focus (first | (simp; done) | (simp; omega) | omega))))) hb
              have Bx := Blk.below (b := W5.heap.size) (t := 31) (by (repeat (first | (with_reducible assumption) | (with_reducible apply Blk.new'; (first | (with_reducible rfl) | (simp; done))) | with_reducible apply Blk.alloc | with_reducible apply Blk.set | ((with_reducible apply Blk.set_ne); focus (first | (simp; done) | (simp; omega))) | with_reducible apply Blk.drewN | with_reducible apply Blk.drew))) hb
              have Bi := Blk.below (b := W5.heap.size + 1) (t := 38) (by (repeat (first | (with_reducible assumption) | (with_reducible apply Blk.new'; (first | (with_reducible rfl) | (simp; done))) | with_reducible apply Blk.alloc | with_reducible apply Blk.set | ((with_reducible apply Blk.set_ne); focus (first | (simp; done) | (simp; omega))) | with_reducible apply Blk.drewN | with_reducible apply Blk.drew))) hb
              have V6 := V5.below hb'
              have BA6 := BA5.below hb'
              have S6 := S5.below hb'
              have m3 := V6.B5.lt
              have m4 := V6.B6.lt
              clear V5 BA5 S5 hb hb' B5c B6c BAc B5l B6l BAl
              have B5c := V6.B5.cell; have B6c := V6.B6.cell; have BAc := BA6.cell
              have B5l := V6.B5.lt; have B6l := V6.B6.lt; have BAl := BA6.lt
              have Bxc := Bx.cell; have Bic := Bi.cell; have Bxl := Bx.lt; have Bil := Bi.lt
              have k1 : b5 < W6.heap.size + 1 := by omega
              have k2 : b5 < W6.heap.size + 1 + 1 := by omega
              go_wp2_with fail
              refine (snum_any _ _ _ _ _ (V6.S.below (by (repeat (first | (with_reducible assumption) | (with_reducible exact Below.refl _ _) | with_reducible apply bl_drewN | with_reducible apply Below.drew | (with_reducible apply bl_alloc; focus (first | (simp; done) | (simp; omega) | omega)) | (with_reducible apply bl_set; focus (first | (simp; done) | (simp; omega) | omega))))))).mono ?_
              rintro e W7 ⟨vn, rfl, hn, hb⟩
              obtain ⟨na2, nc2, rfl⟩ := own_slice hn
              clear hn
              have hb' : Below W6.heap.size W6 W7 := Below.thn (by (repeat (first | (with_reducible assumption) | (with_reducible exact Below.refl _ _) | with_reducible apply bl_drewN | with_reducible apply Below.drew | (with_reducible apply bl_alloc; focus (first | (simp; done) | (simp; omega) | omega)) | (with_reducible apply bl_set; focus (first | (simp; done) | (simp; omega) | omega))))) hb
              have Bq := Blk.below (b := W6.heap.size) (t := 50) (by (repeat (first | (with_reducible assumption) | (with_reducible apply Blk.new'; (first | (with_reducible rfl) | (simp; done))) | with_reducible apply Blk.alloc | with_reducible apply Blk.set | ((with_reducible apply Blk.set_ne); focus (first | (simp; done) | (simp; omega))) | with_reducible apply Blk.drewN | with_reducible apply Blk.drew))) hb
              have Bf := Blk.below (b := W6.heap.size + 1) (t := 55) (by (repeat (first | (with_reducible assumption) | (with_reducible apply Blk.new'; (first | (with_reducible rfl) | (simp; done))) | with_reducible apply Blk.alloc | with_reducible apply Blk.set | ((with_reducible apply Blk.set_ne); focus (first | (simp; done) | (simp; omega))) | with_reducible apply Blk.drewN | with_reducible apply Blk.drew))) hb
              have Bt := Blk.below (b := W6.heap.size + 1 + 1) (t := 55) (by (repeat (first | (with_reducible assumption) | (with_reducible apply Blk.new'; (first | (with_reducible rfl) | (simp; done))) | with_reducible apply Blk.alloc | with_reducible apply Blk.set | ((with_reducible apply Blk.set_ne); focus (first | (simp; done) | (simp; omega))) | with_reducible apply Blk.drewN | with_reducible apply Blk.drew))) hb
              have V7 := V6.below hb'
              have BA7 := BA6.below hb'
              have S7 := S6.below hb'
              have Q7 := Q6.below hb'
              have Bx7 := Bx.below hb'
              have Bi7 := Bi.below hb'
              clear V6 BA6 S6 Q6 Bx Bi hb hb' B5c B6c BAc B5l B6l BAl Bxc Bic Bxl Bil
              have B5c := V7.B5.cell; have B6c := V7.B6.cell; have BAc := BA7.cell
              have B5l := V7.B5.lt; have B6l := V7.B6.lt; have BAl := BA7.lt
              have B5f := V7.B5.frozen; have B6f := V7.B6.frozen
              have Bxc := Bx7.cell; have Bic := Bi7.cell; have Bqc := Bq.cell; have Bfc := Bf.cell; have Btc := Bt.cell
              go_wp2_with fail
              have j1 : W5.heap.size ≠ b5 := by omega
              have j2 : W5.heap.size ≠ b6 := by omega
              have j3 : W6.heap.size ≠ b5 := by omega
              have j4 : W6.heap.size ≠ b6 := by omega
              clear Bi7 Bf Bt Bxc Bic Bqc Bfc Btc B5c B6c BAc B5f B6f B5l B6l BAl
              refine wp_pair (fun W => Blk W W5.heap.size #[fDiff, fSame, .slice a5 m5 c5, .string cur, .int .u64 T] 31 ∧ Blk W W6.heap.size #[.slice a6 m6 c6, .string cur, .int .u64 T] 50) (SV (.slice a5 m5 c5) cur T) (QV (.slice a6 m6 c6) cur T) (by kernel_rfl) (by kernel_rfl) ⟨by (repeat (first | (with_reducible assumption) | (with_reducible apply Blk.new'; (first | (with_reducible rfl) | (simp; done))) | with_reducible apply Blk.alloc | with_reducible apply Blk.set | ((with_reducible apply Blk.set_ne); focus (first | (simp; done) | (simp; omega))) | with_reducible apply Blk.drewN | with_reducible apply Blk.drew)), by (repeat (first | (with_reducible assumption) | (with_reducible apply Blk.new'; (first | (with_reducible rfl) | (simp; done))) | with_reducible apply Blk.alloc | with_reducible apply Blk.set | ((with_reducible apply Blk.set_ne); focus (first | (simp; done) | (simp; omega))) | with_reducible apply Blk.drewN | with_reducible apply Blk.drew))⟩ rfl rfl rfl rfl (fun wq hq => ?_) (fun wq hq => ?_) (fun _ _ _ h => h) (fun _ _ _ h => h) ?_
              · have f0 := hq.1.cell; go_simp
              · have f0 := hq.2.cell; go_simp
              (try simp only [Act.put, List.setIfInBounds_toArray, List.set_cons_zero, List.set_cons_succ])
              have V8 := V7.below (Below.refl _ _).drew
              have BA8 := BA7.drew
              have S8 := S7.below (Below.refl _ _).drew
              have Q8 := Q7.below (Below.refl _ _).drew
              have Bx8 := Bx7.drew
              have Bq8 := Bq.drew
              clear V7 BA7 S7 Q7 Bx7 Bq
              refine wp_put 31 _ _ rfl b5 _ _ 31 rfl rfl V8.B5 (by kernel_rfl) rfl (by first | rfl | decide | simp [Value.oneCell']) (fun W9 hp9 B9 => ⟨⟨hp9.blk j1 Bx8, hp9.blk j3 Bq8⟩, ?_⟩)
              (try simp only [Act.put, List.setIfInBounds_toArray, List.set_cons_zero, List.set_cons_succ])
              refine wp_put 50 _ _ rfl b6 _ _ 50 rfl rfl (hp9.blk (Ne.symm hne56) V8.B6) (by kernel_rfl) rfl (by first | rfl | decide | simp [Value.oneCell']) (fun W10 hp10 B10 => ⟨⟨hp10.blk j2 (hp9.blk j1 Bx8), hp10.blk j4 (hp9.blk j3 Bq8)⟩, ?_⟩)
              (try simp only [Act.put, List.setIfInBounds_toArray, List.set_cons_zero, List.set_cons_succ])
              have VV := both_laid V8 S8 Q8 (hp10.blk hne56 B9) B10 (fun q h5 h6 => (hp10.keep q h6).trans (hp9.keep q h5)) (hp10.size.trans hp9.size) (hp10.below hg6 (hp9.below hg5 V8.HB))
              have VA := hp10.blk hA6 (hp9.blk hA5 BA8)
              clear hp9 hp10 B9 B10 V8 BA8 S8 Q8 Bx8 Bq8
              go_wp2_with fail
              go_meet
              case rel => exact ⟨nl, cur, T, RR, _, _, _, _, _, _, VV, VA⟩
        case rest =>
          clear V1 BA R1 hsm hrnt hr4t hr1t hadd hbig'
          obtain ⟨l2, cur2, last2, R2, a2, m2, c2, a2', m2', c2', V2, BA2⟩ := hcut
          have htop := R2.top
          have hnum2 : ∀ j, j < l2.length → (l2.getD j default).num ≤ 1000000 := fun j hj => by
            obtain ⟨_, _, _, _, _, _, L, _⟩ := V2.S
            exact (L.small j hj).1
          have hl8 := V2.S.len8
          have hl0 := V2.S.pos'
          obtain ⟨bq, offq, capq, hQ, hqc, _, LQ, _, _⟩ := V2.Q
          simp only [QV, Value.agg.injEq, Array.mk.injEq, List.cons.injEq, Value.slice.injEq, and_true] at hQ
          obtain ⟨rfl, rfl, rfl⟩ := hQ
          obtain ⟨x0, hx0⟩ : ∃ x, l2.getD 0 default = x := ⟨_, rfl⟩
          obtain ⟨d2, hd2⟩ : ∃ d, (cur2.toList == x0.val.toList) = d := ⟨_, rfl⟩
          obtain ⟨qv, hqv⟩ : ∃ q, quietB l2 cur2 = q := ⟨_, rfl⟩
          have hqe : qv = (decide (l2.length = 1) && d2) := by rw [← hqv, ← hd2, ← hx0]; unfold quietB; rw [ba_beq]
          have B5c := V2.B5.cell; have B6c := V2.B6.cell
          have B5l := V2.B5.lt; have B6l := V2.B6.lt
          have HX0 := Lib.hid hx0; have HQV := Lib.hid hqv; have HQE := Lib.hid hqe
          clear hx0 hqv hqe
          go_wp2_with fail
          refine (snum_any _ _ _ _ _ V2.S).mono ?_
          rintro e W3 ⟨vn, rfl, hn, hb⟩
          obtain ⟨gn, cn, rfl, _, hgn, hcn⟩ := own_reads hn hl0
          have hnl : ∀ j, j < l2.length → W3.cell? ⟨gn, j, none⟩ = some (.int .u64 (l2.getD j default).num) := fun j hj => by
            rw [hcn j (by omega), getD_get l2 j hj]
            simp only [nums, List.getElem?_map, List.getElem?_eq_getElem hj, Option.map_some]
          have V3 := V2.below hb
          have L3 := LQ.below hb
          have HNL := Lib.hid hnl
          have HNU := Lib.hid hnum2
          clear V2 LQ hn hcn hb B5c B6c B5l B6l BA2 hnl hnum2
          have B53 := V3.B5; have B63 := V3.B6
          have hqt := L3.c2 0 hl0
          rw [HX0.out] at hqt
          simp only [Nat.zero_mul, Nat.add_zero] at hqt
          have S3 := Lib.hid V3.S
          have HV3 := Lib.hid V3
          have HL3 := Lib.hid L3
          have h0l : (0 : Int) < l2.length := by omega
          clear V3 L3
          by_cases h1 : l2.length = 1
          · as_aux_lemma =>
            have hbe : ((l2.length : Int) == 1) = true := by simp; omega
            have hdl : decide (l2.length = 1) = true := by simp [h1]
            have HDL := Lib.hid hdl
            have H1 := Lib.hid h1
            clear h1 hdl
            go_wp2_with fail
            refine wp_region_gr_tail 37 (by kernel_rfl) (by kernel_rfl) ?_
            simp only [List.take_succ_cons, List.take_zero, List.drop_succ_cons, List.drop_zero]
            repeat (first
              | go_big_quiet_skip
              | ((refine BigFrame.wpQuiet_want rfl (fun K hK => quiet_mk ?_)); apply Exists.intro; refine ⟨fun wq hq => ?_, hK _ ?_⟩
                 · have f0 := hq.blk B53; have f1 := hq.blk B63; have f2 := hq.cell hqt; go_simp; (try simp only [↓IntWalk.iteOmega]); (try go_bits)
                   first | done | rfl | exact ⟨rfl, rfl⟩ | (go_at_call 21; refine (current_any _ _ _ _).mono ?_; rintro e wr ⟨rfl, hbr⟩; exact ⟨rfl, hq.next hbr⟩) | (go_at_call 22; refine (sfirst_any _ _ _ x0 _ _ (S3.out.below hq.out) HX0.out).mono ?_; rintro e wr ⟨rfl, hbr⟩; exact ⟨rfl, hq.next hbr⟩) | (go_at_call 15; refine (sqv_any _ _ _ qv _ _ (S3.out.below hq.out) HQV.out).mono ?_; rintro e wr ⟨rfl, hbr⟩; exact ⟨rfl, hq.next hbr⟩)
                 clear hK K; (try simp only [Act.put, List.setIfInBounds_toArray, List.set_cons_zero, List.set_cons_succ])))
            refine wpQuiet_nil ?_
            intro W4 hw4
            have hb4 := hw4.out
            clear hqt hw4 B53 B63
            have hqe2 := HQE.out
            rw [HDL.out, Bool.true_and] at hqe2
            subst hqe2
            go_wp2_with fail
            go_loopg [210] l2.length (fun g t210 wx => ∃ j : Nat, t210 = .int .i64 j ∧ j + g = l2.length ∧ Below W3.heap.size W3 wx)
            case atStart => exact ⟨0, rfl, by omega, hb4⟩
            case round =>
              rename_i wq
              obtain ⟨j, rfl, hj, HX⟩ := hrel
              have HJ := Lib.hid hj
              have HXs := HX.size
              cases gk with
              | zero =>
                have hj' : ¬ (j : Int) < l2.length := by omega
                clear hj
                have V5 := HV3.out.below HX
                clear HX
                go_wp2_with fail
                go_roundg g
                case rel => exact ⟨k + 1, T, last2, l2, cur2, _, _, _, _, _, _, rfl, by simp, by have := HK.out; omega, htT, R2, V5⟩
                case measure => omega
              | succ g2 =>
                have hj' : (j : Int) < l2.length := by omega
                have hjl : j < l2.length := by omega
                clear hj
                have hx := (HX.cell (p := ⟨gn, j, none⟩) hgn).trans (HNL.out j hjl)
                have hy := (HL3.out.below HX).c0 j hjl
                have hz := ((HV3.out.below HX).B6.cell 0).trans (rfl : _ = some (Value.slice (some ⟨bq, offq, none⟩) l2.length _))
                generalize (l2.getD j default).num = nn at hx hy
                go_wp2_with fail
                go_quiet (fail)
                go_wp2_with fail
                go_roundg g2
                case rel => exact ⟨j + 1, by simp, by have := HJ.out; omega, Below.thn HX (Below.drewN' (Nat.le_refl _) _) HXs⟩
                case measure => omega
          · as_aux_lemma =>
            have hbe : ((l2.length : Int) == 1) = false := by simp; omega
            have hdl : decide (l2.length = 1) = false := by simp [h1]
            have HDL := Lib.hid hdl
            clear h1 hdl
            go_wp2_with fail
            refine wp_region_gr_tail 37 (by kernel_rfl) (by kernel_rfl) ?_
            simp only [List.take_succ_cons, List.take_zero, List.drop_succ_cons, List.drop_zero]
            repeat (first
              | go_big_quiet_skip
              | ((refine BigFrame.wpQuiet_want rfl (fun K hK => quiet_mk ?_)); apply Exists.intro; refine ⟨fun wq hq => ?_, hK _ ?_⟩
                 · have f0 := hq.blk B53; have f1 := hq.blk B63; have f2 := hq.cell hqt; go_simp; (try simp only [↓IntWalk.iteOmega]); (try go_bits)
                   first | done | rfl | exact ⟨rfl, rfl⟩ | (go_at_call 21; refine (current_any _ _ _ _).mono ?_; rintro e wr ⟨rfl, hbr⟩; exact ⟨rfl, hq.next hbr⟩) | (go_at_call 22; refine (sfirst_any _ _ _ x0 _ _ (S3.out.below hq.out) HX0.out).mono ?_; rintro e wr ⟨rfl, hbr⟩; exact ⟨rfl, hq.next hbr⟩) | (go_at_call 15; refine (sqv_any _ _ _ qv _ _ (S3.out.below hq.out) HQV.out).mono ?_; rintro e wr ⟨rfl, hbr⟩; exact ⟨rfl, hq.next hbr⟩)
                 clear hK K; (try simp only [Act.put, List.setIfInBounds_toArray, List.set_cons_zero, List.set_cons_succ])))
            refine wpQuiet_nil ?_
            intro W4 hw4
            have hb4 := hw4.out
            clear hqt hw4 B53 B63
            have hqe2 := HQE.out
            rw [HDL.out, Bool.false_and] at hqe2
            subst hqe2
            go_wp2_with fail
            go_loopg [210] l2.length (fun g t210 wx => ∃ j : Nat, t210 = .int .i64 j ∧ j + g = l2.length ∧ Below W3.heap.size W3 wx)
            case atStart => exact ⟨0, rfl, by omega, hb4⟩
            case round =>
              rename_i wq
              obtain ⟨j, rfl, hj, HX⟩ := hrel
              have HJ := Lib.hid hj
              have HXs := HX.size
              cases gk with
              | zero =>
                have hj' : ¬ (j : Int) < l2.length := by omega
                clear hj
                have V5 := HV3.out.below HX
                clear HX
                go_wp2_with fail
                go_roundg g
                case rel => exact ⟨k + 1, T, last2, l2, cur2, _, _, _, _, _, _, rfl, by simp, by have := HK.out; omega, htT, R2, V5⟩
                case measure => omega
              | succ g2 =>
                have hj' : (j : Int) < l2.length := by omega
                have hjl : j < l2.length := by omega
                clear hj
                have hx := (HX.cell (p := ⟨gn, j, none⟩) hgn).trans (HNL.out j hjl)
                have hy := (HL3.out.below HX).c0 j hjl
                have hz := ((HV3.out.below HX).B6.cell 0).trans (rfl : _ = some (Value.slice (some ⟨bq, offq, none⟩) l2.length _))
                generalize (l2.getD j default).num = nn at hx hy
                go_wp2_with fail
                go_quiet (fail)
                go_wp2_with fail
                go_roundg g2
                case rel => exact ⟨j + 1, by simp, by have := HJ.out; omega, Below.thn HX (Below.drewN' (Nat.le_refl _) _) HXs⟩
                case measure => omega
end Go.Proofs.Ytpnbmfpdoipioaa
