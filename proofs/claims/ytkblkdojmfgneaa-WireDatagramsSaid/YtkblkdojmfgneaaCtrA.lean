/- Package ctr: Block. strings.Builder: Write; Len, String as they are wanted here. Package ctr: Stream. Package ctr: Turn. The law of CTR: awake. -/
import Derived.Test.YtkblkdojmfgneaaCtrL
import Derived.Test.YtkblkdojmfgneaaShaC
import Derived.Test.YtkblkdojmfgneaaAesB
import Derived.Test.YtkblkdojmfgneaaShelf
import Derived.Lib.OthersKept
import Derived.Lib.FrozenHead2
import Derived.Lib.BufferWrite
import Derived.Test.YtkblkdojmfgneaaShaB
namespace Go.Proofs.Ytkblkdojmfgneaa
open Go.RowKit

theorem ba_list (a b : List UInt8) : (⟨a.toArray⟩ : ByteArray) ++ ⟨b.toArray⟩ = ⟨(a ++ b).toArray⟩ := ba_ext (by rw [ba_app])
theorem brow_range {w : World} {g : Nat} {l : List UInt8} (h : BRow w g l) : w.rangeAt g 0 (l.map bval) := fun j v hv => by
  have hj : j < l.length := by have := (List.getElem?_eq_some_iff.1 hv).1; rwa [List.length_map] at this
  rw [Nat.zero_add, h.cell j hj, ← hv, List.getElem?_map, List.getD_eq_getElem?_getD, List.getElem?_eq_getElem hj]; rfl
theorem arr_at (W : World) (t e : TypeId) (g o n cap : Nat) (hu : Try.prog.underlying t = some (.array n e)) : (Instr.arrayAt t (.slice (some ⟨g, o, none⟩) n cap)).run Try.prog W = .ok (.pointer (some ⟨g, o, none⟩)) W := by
  unfold Instr.arrayAt
  rw [Sem.run_bind, run_underlying hu W]
  simp
set_option maxHeartbeats 4000000 in
set_option maxRecDepth 20000 in
theorem block_any (a c : Nat) (ha : a ≤ 18446744073709551615) (hc : c ≤ 18446744073709551615) (w : World) : Calls Try.prog 16 #[.int .u64 (a : Int), .int .u64 (c : Int)] w fun e w' => e = .returned (.agg (bcells (ctrB a c))) ∧ Below w.heap.size w w' := by
  have hln := ctrB_len a c
  go_enter Try.func16, Try.ntmps16
  go_wp2_with fail
  refine (wput_any a 8 _ ha (by decide) (by decide)).mono ?_
  rintro e W1 ⟨rfl, hb⟩
  have HB1 : Below w.heap.size w W1 := Below.thn (by (repeat (first | (with_reducible assumption) | (with_reducible exact Below.refl _ _) | with_reducible apply bl_drewN | with_reducible apply Below.drew | (with_reducible apply bl_alloc; focus (first | (simp; done) | (simp; omega) | omega)) | (with_reducible apply bl_set; focus (first | (simp; done) | (simp; omega) | omega))))) hb
  have Z1 : Blk W1 w.heap.size z16 25 := Blk.below (Blk.new' rfl) hb
  clear hb
  have hs1 := HB1.size
  go_wp2_with fail
  refine (wput_any c 8 _ hc (by decide) (by decide)).mono ?_
  rintro e W2 ⟨rfl, hb⟩
  have HB2 := Below.thn HB1 hb hs1
  have Z2 := Z1.below hb
  have hs2 := HB2.size
  clear hb HB1 Z1 hs1
  have hba := ba_list (putB a 8) (putB c 8)
  rw [show putB a 8 ++ putB c 8 = ctrB a c from rfl] at hba
  obtain ⟨s, hs⟩ : ∃ s : ByteArray, (⟨(ctrB a c).toArray⟩ : ByteArray) = s := ⟨_, rfl⟩
  have hsz : s.size = 16 := by rw [← hs, ba_size]; simp [hln]
  obtain ⟨v, W3, hcv, hrow, hb3⟩ := conv_crow s W2 9 36 5 Try.underlying9 Try.underlying36 Try.underlying5 (by omega)
  have HB3 := Below.thn HB2 hb3 hs2
  have Z3 := Z2.below hb3
  rw [hsz] at hrow
  have hsl : s.data.toList = ctrB a c := by rw [← hs]
  rw [hsl] at hrow
  obtain ⟨g, cap, rfl, hg, R⟩ := hrow.bytes
  have hrg := brow_range R
  have hrl : ((ctrB a c).map bval).length = 16 := by rw [List.length_map, hln]
  have hbs := bcells_len _ hln
  have hone := bcells_one (ctrB a c)
  obtain ⟨X, hX⟩ : ∃ X, bcells (ctrB a c) = X := ⟨_, rfl⟩
  have hX' : ((ctrB a c).map bval).toArray = X := hX
  rw [hs] at hba
  clear hrow hs hsl Z2 HB2
  have hXs : X.size = 16 := by rw [← hX]; exact hbs
  rw [hX] at hone
  have harr : ∀ W, (Instr.arrayAt 25 (.slice (some ⟨g, 0, none⟩) 16 cap)).run Try.prog W = .ok (.pointer (some ⟨g, 0, none⟩)) W := fun W => arr_at W 25 _ g 0 16 cap Try.underlying25
  have hp1 := putB_len a 8; have hp2 := putB_len c 8
  clear hX hbs
  go_wp2_with (first | (refine wpList_load_mid rfl 25 _ rfl g 0 rfl _ _ hrg Try.underlying25 rfl (by rw [hrl]; kernel_rfl) ?_) | (refine wpList_put rfl 25 _ _ rfl w.heap.size _ X 25 rfl (by rw [← hX']; rfl) Z3 (by rw [hXs]; kernel_rfl) (hXs.trans rfl) hone (fun W9 hp9 B9 => ?_)))
  refine bodyPost_ret (v := .agg X) ?_ rfl ⟨by rw [← hX']; rfl, hp9.below (Nat.le_refl _) HB3⟩
  exact results_cell_row (Try.results16) _ _ w.heap.size 25 _ (0, 0) _ rfl B9.out Try.underlying25 rfl (by rw [hXs]; kernel_rfl)
end Go.Proofs.Ytkblkdojmfgneaa

namespace Go.Proofs.Ytkblkdojmfgneaa
open Go.RowKit

theorem Below.via {n b : Nat} {w0 w w' : World} (H : Below n w0 w) (hb : Below b w w') (h : n ≤ b) : Below n w0 w' :=
  ⟨hb.os.trans H.os, hb.tape.trans H.tape, hb.output.trans H.output, Nat.le_trans H.size hb.size, fun k hk => (hb.block k (by omega)).trans (H.block k hk)⟩
theorem isb_below {T e : TypeId} {B b : Nat} {bs : List Value} {w w' : World} (h : Lib.IsBuilderF T e B b bs w) (g : Below w.heap.size w w') : Lib.IsBuilderF T e B b bs w' := by
  have key : ∀ p, Lib.BuilderAtF T e B b p bs w → Lib.BuilderAtF T e B b p bs w' := by
    rintro p ⟨h1, v, h2, h3, h4⟩
    refine ⟨h1, v, (g.block b (Array.getElem?_eq_some_iff.1 h2).1).trans h2, ⟨h3.1, ?_⟩, h4⟩
    rcases h3.2 with h5 | ⟨q, c, cur, fz, h5, h6, h7, h8⟩
    · exact Or.inl h5
    · exact Or.inr ⟨q, c, cur, fz, h5, h6, (g.block q (Array.getElem?_eq_some_iff.1 h7).1).trans h7, h8⟩
  exact h.imp (key _) (key _)
theorem isb_lt {T e : TypeId} {B b : Nat} {bs : List Value} {w : World} (h : Lib.IsBuilderF T e B b bs w) : b < w.heap.size := h.elim (fun x => x.lt) (fun x => x.lt)
theorem Blk.kept {w w' : World} {q b : Nat} {cs : Array Value} {t : TypeId} (B : Blk w q cs t) (h : Lib.OthersKept 5 (some b) w w') (hq : q ≠ b) (ht : t ≠ 5) : Blk w' q cs t :=
  ⟨h q _ B.out (by simpa using hq) (fun c fz e => ht (by simp at e; exact e.2.1))⟩
theorem Try.lays240 : Go.Proofs.Lays.n240 Try.prog Try.lays105_ren := { Try.lays105 with }
set_option maxHeartbeats 4000000 in
set_option maxRecDepth 100000 in
theorem wbytes (b g cap : Nat) (out l : List UInt8) (cs : Array Value) (t : TypeId) (ht : t ≠ 5) (hgb : g ≠ b) (w : World) (h : Lib.IsBuilderF 95 5 b b (Lib.byteCells out) w) (G : Blk w g cs t) (hcs : ∀ j, j < l.length → cs[j]? = some (bval (l.getD j 0))) (hl : out.length + l.length ≤ 1000000) :
    Calls Try.prog 53 #[.pointer (some ⟨b, 0, none⟩), .slice (some ⟨g, 0, none⟩) l.length cap] w fun e w' => ∃ v, e = .returned v ∧ Lib.IsBuilderF 95 5 b b (Lib.byteCells (out ++ l)) w' ∧ Below b w w' ∧ Lib.OthersKept 5 (some b) w w' := by
  obtain ⟨i0, hi0, hz0, hz1, hz2⟩ := info_parts info5
  have hBw := Nat.le_of_lt (isb_lt h)
  have hlb : (Lib.byteCells l).length = l.length := Lib.byteCells_length _
  have hlo : (Lib.byteCells out).length = out.length := Lib.byteCells_length _
  obtain ⟨m, hm⟩ : ∃ m, l.length = m := ⟨_, rfl⟩
  obtain ⟨bs, hbs⟩ : ∃ bs, Lib.byteCells out = bs := ⟨_, rfl⟩
  rw [hbs] at h hlo
  rw [hm]
  go_enter Try.func53, Try.ntmps53
  go_wp2_with fail
  refine (Any.Builder_copyCheck_k Try.lays240 Try.Builder_Extra_105.toX72 b b bs _ h).mono ?_
  rintro e w1 ⟨rfl, h1, hb1, hk1⟩
  have G1 := G.kept hk1 hgb ht
  obtain ⟨hB, v, hbk, hown, hne⟩ := h1
  have c0 : w1.cell? ⟨b, 0, none⟩ = some (.pointer (some ⟨b, 0, none⟩)) := by rw [Lib.cell_of_heap hbk]; rfl
  have c1 : w1.cell? ⟨b, 1, none⟩ = some v := by rw [Lib.cell_of_heap hbk]; rfl
  go_wp2_with (at_builtin; refine wpList_append_ownF _ rfl _ _ 36 rfl b 5 i0 (.int .u8 0) 1 1 Try.underlying36 hi0 hz0 hz1 hz2 rfl (by decide) _ _ _ rfl hown ⟨g, 0, none⟩ m cap (Lib.byteCells l) rfl (by rw [hlb, hm, Nat.mul_one]) ?c1 ?c2 ?c3 ?c4 ?c5 ?_)
  case c1 =>
    intro j u hj
    have hjl : j < l.length := by have := (List.getElem?_eq_some_iff.1 hj).1; omega
    rw [Addr.add_mid, Nat.zero_add, G1.cell, hcs j hjl, ← hj]
    simp only [Lib.byteCells, List.getElem?_map, List.getD_eq_getElem?_getD, List.getElem?_eq_getElem hjl]
    rfl
  case c2 => exact Lib.byteCells_one _
  case c3 => unfold maxLen; omega
  case c4 => omega
  case c5 => have := hb1.size; omega
  intro v' w2 hown' hgrow _
  have hlt : b < w1.heap.size := (Array.getElem?_eq_some_iff.1 hbk).1
  have hb2 : w2.heap[b]? = some (.cells #[.pointer (some ⟨b, 0, none⟩), v] 95 (0, 0)) := by
    rw [hgrow.block b hlt (fun e => hne e.symm)]
    exact hbk
  have d0 : w2.cell? ⟨b, 0, none⟩ = some (.pointer (some ⟨b, 0, none⟩)) := by rw [Lib.cell_of_heap hb2]; rfl
  have d1 : w2.cell? ⟨b, 1, none⟩ = some v := by rw [Lib.cell_of_heap hb2]; rfl
  have f1 : w2.frozen? ⟨b, 1, none⟩ = false := Lib.frozen_of_heap hb2 1
  obtain ⟨ao, n', cap', rfl⟩ : ∃ ao n' cap, v' = .slice ao n' cap := by
    rcases hown'.2 with ⟨hv, _⟩ | ⟨g, cap, cur, fz, hv, _⟩
    · exact ⟨_, _, _, hv⟩
    · exact ⟨_, _, _, hv⟩
  go_wp2_with fail
  go_ret2
  refine ⟨_, rfl, ?_, ?_, (hk1.grown hgrow (Lib.ownsRowF_kind hown)).setCell ⟨b, 1, none⟩ rfl _⟩
  · refine .inr ?_
    have e1 : Lib.byteCells (out ++ l) = bs ++ Lib.byteCells l := by rw [← hbs]; simp [Lib.byteCells]
    rw [e1]
    exact Lib.BuilderAtF.put hB hb2 (bs' := bs ++ Lib.byteCells l) (by rw [List.length_append, hlb, hm, hlo]; exact hown') Try.Builder_Extra_105.neB5
  · exact (hb1.grown hgrow (by have := hb1.size; omega) (fun k hk => (hown.lt k hk).1)).setCell (p := ⟨b, 1, none⟩) hB _
theorem blen (b : Nat) (out : List UInt8) (w : World) (h : Lib.IsBuilderF 95 5 b b (Lib.byteCells out) w) :
    Calls Try.prog 52 #[.pointer (some ⟨b, 0, none⟩)] w fun e w' => e = .returned (.int .i64 (out.length : Nat)) ∧ w' = w :=
  (Try.Builder_Len_f b b _ w h).mono fun e w' h => by rw [Lib.byteCells_length] at h; exact h
theorem bstr (b : Nat) (out : List UInt8) (w : World) (h : Lib.IsBuilderF 95 5 b b (Lib.byteCells out) w) :
    Calls Try.prog 54 #[.pointer (some ⟨b, 0, none⟩)] w fun e w' => e = .returned (.string ⟨out.toArray⟩) ∧ Below b w w' :=
  (Try.Builder_String_any_k b b out w h (Nat.le_of_lt (isb_lt h))).mono fun _ _ h => ⟨h.1, h.2.2.1⟩
end Go.Proofs.Ytkblkdojmfgneaa

namespace Go.Proofs.Ytkblkdojmfgneaa
open Go.RowKit

theorem rel_load_blk {P : Program} {o : Oper} {a : Act} {w : World} {post : Value → World → Prop} (ty : TypeId) (x : Operand) (ho : o.op = .load ty x)
    (b : Nat) (hx : a.eval x = .pointer (some ⟨b, 0, none⟩)) (K : Array Value) (t : TypeId) (B : Blk w b K t) (d : TypeDesc)
    (hu : P.underlying ty = some d) (hd : d.isRow = true) (hi : (P.info? ty).map (·.size) = some K.size) (h : post (.agg K) w) : relAt P o a w post := by
  refine rel_load_mid ty x ho b 0 hx K.toList d ?_ hu hd (by simpa using hi) (by simpa using h)
  intro j v hv
  rw [Nat.zero_add, B.cell]
  simpa using hv
theorem strA_take_succ (key : List UInt8) (nonce i n : Nat) (hk : key.length = 16) (h : 16 * i < n) : (strA key nonce i).take n ++ (strB key nonce i).take (min 16 (n - 16 * i)) = (strA key nonce (i + 1)).take n := by
  have hl := strA_len key nonce hk i
  have hb := strB_len key nonce i hk
  rw [strA, List.take_append, hl, List.take_of_length_le (by omega : (strA key nonce i).length ≤ n)]
  congr 1
  rcases Nat.le_total 16 (n - 16 * i) with h1 | h1
  · rw [Nat.min_eq_left h1, List.take_of_length_le (by omega), List.take_of_length_le (by omega)]
  · rw [Nat.min_eq_right h1]
/-- Memory of a stream that is being made. -/
structure StAt (w wr : World) (K : Array Value) (kb bb : Nat) (out : List UInt8) : Prop where
  HB : Below kb w wr
  KB : Blk wr kb K 29
  SB : Lib.IsBuilderF 95 5 bb bb (Lib.byteCells out) wr
  lt : kb < bb
theorem StAt.below {w wr w' : World} {K : Array Value} {kb bb : Nat} {out : List UInt8} (h : StAt w wr K kb bb out) (hb : Below wr.heap.size wr w') : StAt w w' K kb bb out :=
  ⟨Below.thn h.HB hb (Nat.le_of_lt h.KB.lt), h.KB.below hb, isb_below h.SB hb, h.lt⟩
theorem StAt.wrote {w wr w' : World} {K : Array Value} {kb bb : Nat} {out out' : List UInt8} (h : StAt w wr K kb bb out) (S : Lib.IsBuilderF 95 5 bb bb (Lib.byteCells out') w') (hb : Below bb wr w') : StAt w w' K kb bb out' :=
  ⟨Below.via h.HB hb (Nat.le_of_lt h.lt), ⟨(hb.block kb h.lt).trans h.KB.out⟩, S, h.lt⟩
/-- A builder stands as another block, which isn't its row, is written. -/
theorem isb_put {T b g : Nat} {bs : List Value} {w w' : World} {cs : Array Value} {t : TypeId} (h : Lib.IsBuilderF T 5 b b bs w) (hp : Put g w w') (hg : g ≠ b) (G : Blk w g cs t) (ht : t ≠ 5 := by decide) : Lib.IsBuilderF T 5 b b bs w' := by
  have key : ∀ p, Lib.BuilderAtF T 5 b b p bs w → Lib.BuilderAtF T 5 b b p bs w' := by
    rintro p ⟨h1, v, h2, h3, h4⟩
    refine ⟨h1, v, (hp.keep b (fun e => hg e.symm)).trans h2, ⟨h3.1, ?_⟩, h4⟩
    rcases h3.2 with h5 | ⟨q, c, cur, fz, h5, h6, h7, h8⟩
    · exact Or.inl h5
    · refine Or.inr ⟨q, c, cur, fz, h5, h6, (hp.keep q ?_).trans h7, h8⟩
      rintro rfl
      have e := G.out.symm.trans h7
      simp only [Option.some.injEq, Obj.cells.injEq] at e
      exact ht e.2.1
  exact h.imp (key _) (key _)
set_option maxHeartbeats 8000000 in
set_option maxRecDepth 20000 in
theorem stream_any (key : List UInt8) (nonce n : Nat) (hk : key.length = 16) (hnon : nonce ≤ 18446744073709551615) (hn : n ≤ 65536) (w : World) :
    Calls Try.prog 17 #[.agg (kcells (keysN key 10)).toArray, .int .u64 (nonce : Int), .int .i64 (n : Int)] w fun e w' => e = .returned (.tuple #[.string ⟨(streamL key nonce n).toArray⟩, .int .i64 0]) ∧ Below w.heap.size w w' := by
  have hKs := keysN_size key hk
  have hen := fun (l : List UInt8) (hl : l.length = 16) W => encrypt_any key l hk hl W
  obtain ⟨K, hK⟩ : ∃ K, (kcells (keysN key 10)).toArray = K := ⟨_, rfl⟩
  rw [hK] at hKs hen ⊢
  have HEN := Lib.hid hen
  have n1 : ¬ (n : Int) < 0 := by omega
  have n2 : ¬ (65536 : Int) < (n : Int) := by omega
  obtain ⟨T, hT⟩ : ∃ T, streamL key nonce n = T := ⟨_, rfl⟩
  rw [hT]
  have HT := Lib.hid hT
  clear hK hen hT
  go_enter Try.func17, Try.ntmps17
  go_upto_region 4 with fail
  refine wp_absQ (fun W => StAt w W K w.heap.size (w.heap.size + 1) []) ⟨by (repeat (first | (with_reducible assumption) | (with_reducible exact Below.refl _ _) | with_reducible apply bl_drewN | with_reducible apply Below.drew | (with_reducible apply bl_alloc; focus (first | (simp; done) | (simp; omega) | omega)) | (with_reducible apply bl_set; focus (first | (simp; done) | (simp; omega) | omega)))), Blk.alloc (Blk.new _ _ _), by
    have := Lib.IsBuilderF.of (Lib.fresh_isBuilder 95 5 (w.alloc (Obj.cells K 29)))
    rw [show (w.alloc (Obj.cells K 29)).heap.size = w.heap.size + 1 by simp] at this
    exact this, by omega⟩ (fun W1 V1 => ?_)
  obtain ⟨kb, hkb⟩ : ∃ b, w.heap.size = b := ⟨_, rfl⟩
  have HKB := Lib.hid hkb
  rw [hkb] at V1 ⊢
  clear hkb
  obtain ⟨bb, hbb⟩ : ∃ b, kb + 1 = b := ⟨_, rfl⟩
  rw [hbb] at V1 ⊢
  clear hbb
  go_wp2_with fail
  go_loopg [9] ((n + 15) / 16) (fun gk t9 wr => ∃ i : Nat, i + gk = (n + 15) / 16 ∧ t9 = .int .u64 (i : Int) ∧ StAt w wr K kb bb ((strA key nonce i).take n))
  case atStart => exact ⟨0, by omega, rfl, by rw [strA, List.take_nil]; exact V1⟩
  case round =>
    clear V1
    obtain ⟨i, hi, rfl, V⟩ := hrel
    have hlt := V.lt
    have hsl : ((strA key nonce i).take n).length = min n (16 * i) := by rw [List.length_take, strA_len key nonce hk]
    go_wp2_with fail
    refine (blen bb _ _ V.SB).mono ?_
    rintro e W2 ⟨rfl, rfl⟩
    rw [hsl]
    cases gk with
    | zero =>
      have hmn : min n (16 * i) = n := by omega
      rw [hmn]
      have he : (strA key nonce i).take n = T := by rw [← HT.out, show i = (n + 15) / 16 by omega]; rfl
      rw [he] at V
      clear hsl hi hmn he
      go_wp2_with fail
      refine (bstr bb _ _ V.SB).mono ?_
      rintro e W9 ⟨rfl, hb9⟩
      have HB9 := Below.via V.HB hb9 (by omega)
      go_wp2_with fail
      go_ret2
      exact ⟨rfl, by rw [HKB.out]; exact HB9⟩
    | succ g =>
      have h16 : 16 * i < n := by omega
      obtain ⟨m, hm⟩ : ∃ m, 16 * i = m := ⟨_, rfl⟩
      have hmn : min n (16 * i) = m := by omega
      rw [hmn] at hsl ⊢
      have hmi : (m : Int) < (n : Int) := by omega
      have hstep := strA_take_succ key nonce i n hk h16
      rw [hm] at hstep
      obtain ⟨d, hd⟩ : ∃ d, n - m = d := ⟨_, rfl⟩
      have hdi : (n : Int) - (m : Int) = (d : Int) := by omega
      rw [hd] at hstep
      obtain ⟨k, hkk⟩ : ∃ k, min 16 d = k := ⟨_, rfl⟩
      have hki : min (16 : Int) (d : Int) = (k : Int) := by omega
      rw [hkk] at hstep
      have hk16 : k ≤ 16 := by omega
      have hk16i : (k : Int) ≤ 16 := by omega
      have hi1 : (i : Int) + 1 ≤ 18446744073709551615 := by omega
      have hin : i ≤ 18446744073709551615 := by omega
      have hst := strB_len key nonce i hk
      obtain ⟨X, hX⟩ : ∃ X, strB key nonce i = X := ⟨_, rfl⟩
      have hX' : encL key (ctrB nonce i) = X := hX
      rw [hX] at hst hstep
      have hxs := bcells_len X hst
      have HI := Lib.hid hi; have HS := Lib.hid hstep; have HSL := Lib.hid hsl
      have hmo : m ≤ 65536 := by omega
      have hen2 := fun W => HEN.out (ctrB nonce i) (ctrB_len nonce i) W
      rw [hX'] at hen2
      have HE2 := Lib.hid hen2
      clear hi hstep hsl hX hX' hm hmn hd hkk h16 hen2
      go_wp2_with fail
      refine wp_region_typed 6 (fun k => match k with  | _ => []) (fun k => match k with  | _ => false) (fun k => match k with | 0 => some ⟨(Unit), (()), (fun _ => .agg K), (fun _ _ => True), (fun _ _ _ h _ => h)⟩ | 3 => some ⟨(Unit), (()), (fun _ => .agg (bcells (ctrB nonce i))), (fun _ _ => True), (fun _ _ _ h _ => h)⟩ | 4 => some ⟨(Unit), (()), (fun _ => .agg (bcells X)), (fun _ _ => True), (fun _ _ _ h _ => h)⟩ | 5 => some ⟨(Nat), (0), (fun b => .pointer (some ⟨b, 0, none⟩)), (fun b w => W2.heap.size ≤ b ∧ Blk w b z16 25), (fun b w w' h hb => ⟨h.1, h.2.below hb⟩)⟩ | _ => none) (by kernel_rfl) (by kernel_rfl) (by intro d0 v0 c0 a0 w0 h0; first | (cases d0 <;> exact h0) | exact hP _ _ _ _ _ h0) ?_
      rw [show List.range 6 = [0, 1, 2, 3, 4, 5] from rfl]
      refine ty_rel rfl rfl _ rfl rfl (fun wq hq hk => ?_) ?_
      · exact rel_load_blk _ _ rfl kb rfl K _ (V.KB.gr hq) _ Try.underlying29 rfl (by rw [hKs]; kernel_rfl) (.mk (Below.refl _ _) () rfl trivial)
      rintro ⟨⟩
      (try simp only [Act.put, List.setIfInBounds_toArray, List.set_cons_zero, List.set_cons_succ])
      first
        | (refine ty_skip rfl rfl ?_; (try simp only [Act.put, List.setIfInBounds_toArray, List.set_cons_zero, List.set_cons_succ]))
        | (refine ty_pure rfl rfl rfl rfl ?_; apply Exists.intro; refine ⟨fun wq hq hk => ?_, ?_⟩
           · simp only [pureAt]; go_simp; (try simp only [↓IntWalk.iteOmega]); (try go_bits); (try simp only [pureUpon]); (first | done | exact ⟨rfl, rfl⟩ | exact ⟨trivial, rfl⟩ | rfl)
           (try simp only [Act.put, List.setIfInBounds_toArray, List.set_cons_zero, List.set_cons_succ]))
      first
        | (refine ty_skip rfl rfl ?_; (try simp only [Act.put, List.setIfInBounds_toArray, List.set_cons_zero, List.set_cons_succ]))
        | (refine ty_pure rfl rfl rfl rfl ?_; apply Exists.intro; refine ⟨fun wq hq hk => ?_, ?_⟩
           · simp only [pureAt]; go_simp; (try simp only [↓IntWalk.iteOmega]); (try go_bits); (try simp only [pureUpon]); (first | done | exact ⟨rfl, rfl⟩ | exact ⟨trivial, rfl⟩ | rfl)
           (try simp only [Act.put, List.setIfInBounds_toArray, List.set_cons_zero, List.set_cons_succ]))
      refine ty_rel rfl rfl _ rfl rfl (fun wq hq hk => ?_) ?_
      · simp only [relAt]; go_simp; (try simp only [relUpon]); (go_at_call 16; refine (block_any nonce i hnon hin _).mono ?_; rintro e w9 ⟨rfl, hb9⟩; exact ⟨_, rfl, .mk hb9 () rfl trivial⟩)
      rintro ⟨⟩
      (try simp only [Act.put, List.setIfInBounds_toArray, List.set_cons_zero, List.set_cons_succ])
      refine ty_rel rfl rfl _ rfl rfl (fun wq hq hk => ?_) ?_
      · simp only [relAt]; go_simp; (try simp only [relUpon]); (go_at_call 23; refine (HE2.out _).mono ?_; rintro e w9 ⟨rfl, hb9⟩; exact ⟨_, rfl, .mk hb9 () rfl trivial⟩)
      rintro ⟨⟩
      (try simp only [Act.put, List.setIfInBounds_toArray, List.set_cons_zero, List.set_cons_succ])
      refine ty_rel rfl rfl _ rfl rfl (fun wq hq hk => ?_) ?_
      · simp only [relAt]; go_simp; (try simp only [relUpon]); exact .mk ((Below.refl _ _).alloc (Nat.le_refl _) _) wq.heap.size rfl ⟨hq.size, Blk.new wq _ _⟩
      rintro (xb : Nat)
      (try simp only [Act.put, List.setIfInBounds_toArray, List.set_cons_zero, List.set_cons_succ])
      refine ty_nil ?_
      simp only [List.drop_succ_cons, List.drop_zero]
      intro W3 hw3 hΓ
      obtain ⟨hxb, X3⟩ := hΓ _ (.head _)
      have V3 := V.below hw3.out
      have hbbl := isb_lt V.SB
      clear hΓ hw3
      have hxbb : xb ≠ bb := by omega
      go_upto_region 8 with (refine wpList_put rfl 25 _ _ rfl xb _ (bcells X) 25 rfl rfl X3 (by rw [hxs]; kernel_rfl) (hxs.trans rfl) (bcells_one X) (fun W4 hp4 X4 => ?_))
      (try simp only [Act.put])
      have hkx : kb < xb := by have := V3.lt; omega
      have V4 : StAt w W4 K kb bb ((strA key nonce i).take n) := ⟨hp4.below (Nat.le_of_lt hkx) V3.HB, hp4.blk (by omega) V3.KB, isb_put V3.SB hp4 (by omega) X3, V3.lt⟩
      clear V V3 hp4 X3 hbbl
      go_wp2_with fail
      refine (blen bb _ _ V4.SB).mono ?_
      rintro e W5 ⟨rfl, rfl⟩
      rw [HSL.out]
      go_wp2_with fail
      have hlk : (X.take k).length = k := by rw [List.length_take, hst]; omega
      have hwr := wbytes bb xb 16 ((strA key nonce i).take n) (X.take k) (bcells X) 25 (by decide) hxbb W5 V4.SB X4 (fun j hj => by
        rw [hlk] at hj
        rw [bcells_get X j (by omega), List.getD_eq_getElem?_getD, List.getD_eq_getElem?_getD, List.getElem?_take_of_lt hj]; rfl) (by rw [hlk, HSL.out]; omega)
      rw [hlk, HS.out] at hwr
      refine hwr.mono ?_
      rintro e W6 ⟨v6, rfl, S6, hb6, hk6⟩
      have V6 := V4.wrote S6 hb6
      clear V4 X4 S6 hb6 hk6 hwr hlk
      go_wp2_with fail
      go_roundg g
      case rel => exact ⟨i + 1, by have := HI.out; omega, by simp, V6⟩
      case measure => omega
set_option maxHeartbeats 4000000 in
set_option maxRecDepth 20000 in
theorem stream_bad (K : Array Value) (nonce n : Int) (hn : n < 0 ∨ 65536 < n) (w : World) :
    Calls Try.prog 17 #[.agg K, .int .u64 nonce, .int .i64 n] w fun e w' => e = .returned (.tuple #[.string ⟨#[]⟩, .int .i64 7]) ∧ Below w.heap.size w w' := by
  rcases hn with n1 | n2
  · go_enter Try.func17, Try.ntmps17
    go_wp2_with fail
    go_ret2
    exact ⟨rfl, by (repeat (first | (with_reducible assumption) | (with_reducible exact Below.refl _ _) | with_reducible apply bl_drewN | with_reducible apply Below.drew | (with_reducible apply bl_alloc; focus (first | (simp; done) | (simp; omega) | omega)) | (with_reducible apply bl_set; focus (first | (simp; done) | (simp; omega) | omega))))⟩
  · have n1 : ¬ n < 0 := by omega
    go_enter Try.func17, Try.ntmps17
    go_wp2_with fail
    go_ret2
    exact ⟨rfl, by (repeat (first | (with_reducible assumption) | (with_reducible exact Below.refl _ _) | with_reducible apply bl_drewN | with_reducible apply Below.drew | (with_reducible apply bl_alloc; focus (first | (simp; done) | (simp; omega) | omega)) | (with_reducible apply bl_set; focus (first | (simp; done) | (simp; omega) | omega))))⟩
end Go.Proofs.Ytkblkdojmfgneaa

namespace Go.Proofs.Ytkblkdojmfgneaa
open Go.RowKit

theorem turnS_at (key : List UInt8) (nonce : Nat) (L : List UInt8) (i k : Nat) (hk : key.length = 16) (h16 : k < 16) (h : 16 * i + k < L.length) : (turnS key nonce L).getD (16 * i + k) 0 = L.getD (16 * i + k) 0 ^^^ (strB key nonce i).getD k 0 := by
  have hl := strA_len key nonce hk i
  rw [turnS_get key nonce L _ hk h, streamL_more key nonce _ (i + 1) hk (by omega)]
  congr 1
  rw [List.getD_eq_getElem?_getD, List.getD_eq_getElem?_getD, List.getElem?_take_of_lt (by omega), strA, List.getElem?_append_right (by omega), hl, Nat.add_sub_cancel_left]
/-- Memory of a text that is being turned. -/
structure TuAt (w wr : World) (K : Array Value) (kb rb : Nat) (cur : List UInt8) : Prop where
  HB : Below kb w wr
  KB : Blk wr kb K 29
  R : BRow wr rb cur
  lt : kb < rb
theorem TuAt.below {w wr w' : World} {K : Array Value} {kb rb : Nat} {cur : List UInt8} (h : TuAt w wr K kb rb cur) (hb : Below wr.heap.size wr w') : TuAt w w' K kb rb cur :=
  ⟨Below.thn h.HB hb (Nat.le_of_lt h.KB.lt), h.KB.below hb, h.R.below hb, h.lt⟩
theorem TuAt.set {w wr : World} {K : Array Value} {kb rb : Nat} {cur : List UInt8} (h : TuAt w wr K kb rb cur) (k : Nat) (hk : k < cur.length) (c : UInt8) : TuAt w (wr.setCell ⟨rb, k, none⟩ (.int .u8 ((c.toNat : Nat) : Int))) K kb rb (cur.set k c) :=
  have h1 := h.lt
  ⟨h.HB.setCell (p := ⟨rb, k, none⟩) (by show kb ≤ rb; omega) _, h.KB.set_ne (by show kb ≠ rb; omega), h.R.set hk c, h.lt⟩
set_option maxHeartbeats 8000000 in
set_option maxRecDepth 20000 in
theorem cturn_any (key : List UInt8) (nonce : Nat) (s : ByteArray) (hk : key.length = 16) (hnon : nonce ≤ 18446744073709551615) (hn : s.size ≤ 100000) (w : World) :
    Calls Try.prog 19 #[.agg (kcells (keysN key 10)).toArray, .int .u64 (nonce : Int), .string s] w fun e w' => e = .returned (.string ⟨(turnS key nonce s.data.toList).toArray⟩) ∧ Below w.heap.size w w' := by
  have hKs := keysN_size key hk
  have hen := fun (l : List UInt8) (hl : l.length = 16) W => encrypt_any key l hk hl W
  obtain ⟨K, hK⟩ : ∃ K, (kcells (keysN key 10)).toArray = K := ⟨_, rfl⟩
  rw [hK] at hKs hen ⊢
  have HEN := Lib.hid hen
  obtain ⟨n, hsn⟩ : ∃ n, s.size = n := ⟨_, rfl⟩
  obtain ⟨L, hL⟩ : ∃ L, s.data.toList = L := ⟨_, rfl⟩
  have hLl : L.length = n := by rw [← hL]; exact hsn
  have hTl := turnS_len key nonce L hk
  obtain ⟨T, hT⟩ : ∃ T, turnS key nonce L = T := ⟨_, rfl⟩
  rw [hL, hT]
  rw [hT] at hTl
  have HT := Lib.hid hT
  rw [hsn] at hn
  clear hK hen hT
  go_enter Try.func19, Try.ntmps19
  go_upto_region 1 with fail
  refine wp_absQ (fun W => Below w.heap.size w W ∧ Blk W w.heap.size K 29) ⟨by (repeat (first | (with_reducible assumption) | (with_reducible exact Below.refl _ _) | with_reducible apply bl_drewN | with_reducible apply Below.drew | (with_reducible apply bl_alloc; focus (first | (simp; done) | (simp; omega) | omega)) | (with_reducible apply bl_set; focus (first | (simp; done) | (simp; omega) | omega)))), Blk.new _ _ _⟩ (fun W0 V0 => ?_)
  obtain ⟨HB0, K0⟩ := V0
  have hkl0 := K0.lt
  obtain ⟨v, W1, hcv, hrow, hb1⟩ := conv_crow s W0 9 36 5 Try.underlying9 Try.underlying36 Try.underlying5 (by omega)
  have HB1 := Below.thn HB0 hb1 HB0.size
  have K1 := K0.below hb1
  rw [hsn, hL] at hrow
  obtain ⟨rb, cap, rfl, hrb, R⟩ := hrow.bytes
  have V1 : TuAt w W1 K w.heap.size rb L := ⟨HB1, K1, R, by omega⟩
  obtain ⟨kb, hkb⟩ : ∃ b, w.heap.size = b := ⟨_, rfl⟩
  have HKB := Lib.hid hkb
  rw [hkb] at V1 ⊢
  have hcap : n ≤ cap := by
    obtain ⟨_, g, c2, cur, fr, h2, _, _, h5, _⟩ := hrow
    simp only [Value.slice.injEq] at h2
    omega
  clear hkb HB0 K0 HB1 K1 R hb1 hrow hkl0
  go_wp2_with fail
  go_loopg [8] ((n + 15) / 16) (fun gk t8 wr => ∃ (i m : Nat) (cur : List UInt8), i + gk = (n + 15) / 16 ∧ 16 * i = m ∧ t8 = .int .i64 (m : Int) ∧ TuAt w wr K kb rb cur ∧ Fill T L cur n (min m n))
  case atStart => exact ⟨0, 0, L, by omega, rfl, rfl, V1, by rw [Nat.zero_min]; exact .start hLl⟩
  case round =>
    clear V1 hcv
    obtain ⟨i, m, cur, hi, hm, rfl, V, F⟩ := hrel
    cases gk with
    | zero =>
      have hmn : min m n = n := by omega
      rw [hmn] at F
      have he := F.all (by omega)
      subst he
      have hge : ¬ (m : Int) < (n : Int) := by omega
      have hcv : (convert 36 9 (.slice (some ⟨rb, 0, none⟩) n cap)).run Try.prog wr = .ok (.string ⟨cur.toArray⟩) wr := by
        have h5 := Lib.run_convert_whole (P := Try.prog) wr 36 5 9 Try.underlying36 Try.underlying5 Try.underlying9 rb 0 ⟨cur.toArray⟩ (row_bytes V.R) cap
        rw [show (⟨cur.toArray⟩ : ByteArray).size = n by rw [ba_size]; simpa using hTl.trans hLl] at h5
        exact h5
      clear F hmn hi hm
      go_wp2_with fail
      go_ret
      exact ⟨rfl, by rw [HKB.out]; exact V.HB⟩
    | succ g =>
      have hmn : m < n := by omega
      have hmi : (m : Int) < (n : Int) := by omega
      have hq : (m : Int) / 16 = (i : Int) := by omega
      have hin : i ≤ 18446744073709551615 := by omega
      have hini : (i : Int) ≤ 18446744073709551615 := by omega
      obtain ⟨a, ha⟩ : ∃ a, m + 16 = a := ⟨_, rfl⟩
      obtain ⟨e, he⟩ : ∃ e, min a n = e := ⟨_, rfl⟩
      obtain ⟨c, hc⟩ : ∃ c, e - m = c := ⟨_, rfl⟩
      have h1 : (m : Int) + 16 = (a : Int) := by omega
      have h2 : min (a : Int) (n : Int) = (e : Int) := by omega
      have h3 : m ≤ e := by omega
      have h4 : e ≤ cap := by omega
      have h5 : m < cap := by omega
      have h6 : c ≤ 16 := by omega
      have h7 : m + c ≤ n := by omega
      have hst := strB_len key nonce i hk
      obtain ⟨X, hX⟩ : ∃ X, strB key nonce i = X := ⟨_, rfl⟩
      have hX' : encL key (ctrB nonce i) = X := hX
      have htn : ∀ k, k < c → T.getD (m + k) 0 = L.getD (m + k) 0 ^^^ X.getD k 0 := fun k hk2 => by
        rw [← HT.out, ← hX, ← hm]; exact turnS_at key nonce L i k hk (by omega) (by omega)
      rw [hX] at hst
      have hxs := bcells_len X hst
      have hen2 := fun W => HEN.out (ctrB nonce i) (ctrB_len nonce i) W
      rw [hX'] at hen2
      have HE2 := Lib.hid hen2; have HTN := Lib.hid htn; have HI := Lib.hid hi; have HM := Lib.hid hm
      have hmin : min m n = m := by omega
      rw [hmin] at F
      clear hX hX' hen2 htn hi hm hmin
      go_wp2_with fail
      refine wp_region_typed 8 (fun k => match k with  | _ => []) (fun k => match k with  | _ => false) (fun k => match k with | 0 => some ⟨(Unit), (()), (fun _ => .agg K), (fun _ _ => True), (fun _ _ _ h _ => h)⟩ | 5 => some ⟨(Unit), (()), (fun _ => .agg (bcells (ctrB nonce i))), (fun _ _ => True), (fun _ _ _ h _ => h)⟩ | 6 => some ⟨(Unit), (()), (fun _ => .agg (bcells X)), (fun _ _ => True), (fun _ _ _ h _ => h)⟩ | 7 => some ⟨(Nat), (0), (fun b => .pointer (some ⟨b, 0, none⟩)), (fun b w => wr.heap.size ≤ b ∧ Blk w b z16 25), (fun b w w' h hb => ⟨h.1, h.2.below hb⟩)⟩ | _ => none) (by kernel_rfl) (by kernel_rfl) (by intro d0 v0 c0 a0 w0 h0; first | (cases d0 <;> exact h0) | exact hP _ _ _ _ _ h0) ?_
      rw [show List.range 8 = [0, 1, 2, 3, 4, 5, 6, 7] from rfl]
      refine ty_rel rfl rfl _ rfl rfl (fun wq hq hk => ?_) ?_
      · exact rel_load_blk _ _ rfl kb rfl K _ (V.KB.gr hq) _ Try.underlying29 rfl (by rw [hKs]; kernel_rfl) (.mk (Below.refl _ _) () rfl trivial)
      rintro ⟨⟩
      (try simp only [Act.put, List.setIfInBounds_toArray, List.set_cons_zero, List.set_cons_succ])
      first
        | (refine ty_skip rfl rfl ?_; (try simp only [Act.put, List.setIfInBounds_toArray, List.set_cons_zero, List.set_cons_succ]))
        | (refine ty_pure rfl rfl rfl rfl ?_; apply Exists.intro; refine ⟨fun wq hq hk => ?_, ?_⟩
           · simp only [pureAt]; go_simp; (try simp only [↓IntWalk.iteOmega]); (try go_bits); (try simp only [pureUpon]); (first | done | exact ⟨rfl, rfl⟩ | exact ⟨trivial, rfl⟩ | rfl)
           (try simp only [Act.put, List.setIfInBounds_toArray, List.set_cons_zero, List.set_cons_succ]))
      first
        | (refine ty_skip rfl rfl ?_; (try simp only [Act.put, List.setIfInBounds_toArray, List.set_cons_zero, List.set_cons_succ]))
        | (refine ty_pure rfl rfl rfl rfl ?_; apply Exists.intro; refine ⟨fun wq hq hk => ?_, ?_⟩
           · simp only [pureAt]; go_simp; (try simp only [↓IntWalk.iteOmega]); (try go_bits); (try simp only [pureUpon]); (first | done | exact ⟨rfl, rfl⟩ | exact ⟨trivial, rfl⟩ | rfl)
           (try simp only [Act.put, List.setIfInBounds_toArray, List.set_cons_zero, List.set_cons_succ]))
      first
        | (refine ty_skip rfl rfl ?_; (try simp only [Act.put, List.setIfInBounds_toArray, List.set_cons_zero, List.set_cons_succ]))
        | (refine ty_pure rfl rfl rfl rfl ?_; apply Exists.intro; refine ⟨fun wq hq hk => ?_, ?_⟩
           · simp only [pureAt]; go_simp; (try simp only [↓IntWalk.iteOmega]); (try go_bits); (try simp only [pureUpon]); (first | done | exact ⟨rfl, rfl⟩ | exact ⟨trivial, rfl⟩ | rfl)
           (try simp only [Act.put, List.setIfInBounds_toArray, List.set_cons_zero, List.set_cons_succ]))
      first
        | (refine ty_skip rfl rfl ?_; (try simp only [Act.put, List.setIfInBounds_toArray, List.set_cons_zero, List.set_cons_succ]))
        | (refine ty_pure rfl rfl rfl rfl ?_; apply Exists.intro; refine ⟨fun wq hq hk => ?_, ?_⟩
           · simp only [pureAt]; go_simp; (try simp only [↓IntWalk.iteOmega]); (try go_bits); (try simp only [pureUpon]); (first | done | exact ⟨rfl, rfl⟩ | exact ⟨trivial, rfl⟩ | rfl)
           (try simp only [Act.put, List.setIfInBounds_toArray, List.set_cons_zero, List.set_cons_succ]))
      refine ty_rel rfl rfl _ rfl rfl (fun wq hq hk => ?_) ?_
      · simp only [relAt]; go_simp; (try simp only [relUpon]); (go_at_call 16; refine (block_any nonce i hnon hin _).mono ?_; rintro e w9 ⟨rfl, hb9⟩; exact ⟨_, rfl, .mk hb9 () rfl trivial⟩)
      rintro ⟨⟩
      (try simp only [Act.put, List.setIfInBounds_toArray, List.set_cons_zero, List.set_cons_succ])
      refine ty_rel rfl rfl _ rfl rfl (fun wq hq hk => ?_) ?_
      · simp only [relAt]; go_simp; (try simp only [relUpon]); (go_at_call 23; refine (HE2.out _).mono ?_; rintro e w9 ⟨rfl, hb9⟩; exact ⟨_, rfl, .mk hb9 () rfl trivial⟩)
      rintro ⟨⟩
      (try simp only [Act.put, List.setIfInBounds_toArray, List.set_cons_zero, List.set_cons_succ])
      refine ty_rel rfl rfl _ rfl rfl (fun wq hq hk => ?_) ?_
      · simp only [relAt]; go_simp; (try simp only [relUpon]); exact .mk ((Below.refl _ _).alloc (Nat.le_refl _) _) wq.heap.size rfl ⟨hq.size, Blk.new wq _ _⟩
      rintro (xb : Nat)
      (try simp only [Act.put, List.setIfInBounds_toArray, List.set_cons_zero, List.set_cons_succ])
      refine ty_nil ?_
      simp only [List.drop_succ_cons, List.drop_zero]
      intro W3 hw3 hΓ
      obtain ⟨hxb, X3⟩ := hΓ _ (.head _)
      have V3 := V.below hw3.out
      have hrbl := V.R.lt
      have hxrb : xb ≠ rb := by omega
      clear hΓ hw3
      go_upto_region 6 with (refine wpList_put rfl 25 _ _ rfl xb _ (bcells X) 25 rfl rfl X3 (by rw [hxs]; kernel_rfl) (hxs.trans rfl) (bcells_one X) (fun W4 hp4 X4 => ?_))
      (try simp only [Act.put])
      have hkx : kb < xb := by have := V3.lt; omega
      have V4 : TuAt w W4 K kb rb cur := ⟨hp4.below (Nat.le_of_lt hkx) V3.HB, hp4.blk (by omega) V3.KB, V3.R.keep (by rw [hp4.size]; exact Nat.le_refl _) (hp4.keep rb (by omega)), V3.lt⟩
      clear V V3 hp4 X3 hrbl
      go_wp2_with fail
      go_loopg [35] c (fun g2 t35 wx => ∃ (k : Nat) (cur : List UInt8), k + g2 = c ∧ t35 = .int .i64 (k : Int) ∧ TuAt w wx K kb rb cur ∧ Blk wx xb (bcells X) 25 ∧ Fill T L cur n (m + k))
      case atStart => exact ⟨0, cur, by omega, rfl, V4, X4, F⟩
      case round =>
        clear V4 X4 F
        obtain ⟨k, cur, hk2, rfl, V, XB, F⟩ := hrel
        cases gk with
        | zero =>
          obtain rfl : k = c := by omega
          have hnn : ¬ (k : Int) < (k : Int) := by omega
          clear hk2
          go_wp2_with fail
          go_roundg g
          case rel => exact ⟨i + 1, a, cur, by have := HI.out; omega, by have := HM.out; omega, by simp, V, by rw [show min a n = m + k by omega]; exact F⟩
          case measure => omega
        | succ g2 =>
          have hkc : (k : Int) < (c : Int) := by omega
          have hkcn : k < c := by omega
          obtain ⟨p, hp⟩ : ∃ p, m + k = p := ⟨_, rfl⟩
          have hpi : (m : Int) + (k : Int) = (p : Int) := by omega
          have hpn : (p : Int) < (n : Int) := by omega
          have hpnn : p < n := by omega
          have hk16 : (k : Int) < 16 := by omega
          rw [hp] at F
          have F2 := F.step hpnn
          have hx := HTN.out k hkcn
          rw [hp, ← F.todo p (Nat.le_refl _) hpnn] at hx
          obtain ⟨y, hy⟩ : ∃ y, T.getD p 0 = y := ⟨_, rfl⟩
          rw [hy] at F2 hx
          have c1 := V.R.cell p (by rw [F.len]; exact hpnn)
          have f1 := V.R.frz p (by rw [F.len]; exact hpnn)
          have c2 := XB.cell k
          rw [bcells_get X k (by omega)] at c2
          obtain ⟨u, hu⟩ : ∃ y, cur.getD p 0 = y := ⟨_, rfl⟩
          obtain ⟨x, hx2⟩ : ∃ y, X.getD k 0 = y := ⟨_, rfl⟩
          rw [hu] at c1 hx; rw [hx2] at c2 hx
          have c1' : wr.cell? ⟨rb, p, none⟩ = some (.int .u8 ((u.toNat : Nat) : Int)) := c1
          have e1 := sum_xor8 u x
          rw [← hx] at e1
          have hpl : p < cur.length := by rw [F.len]; exact hpnn
          have hK2 := Lib.hid hk2; have HF2 := Lib.hid F2; have HP := Lib.hid hp
          have hrl := V.R.lt
          clear hk2 F F2 hx hy hu hx2 hp c1
          go_wp2_with fail
          refine wp_region_gr_tail 11 (by kernel_rfl) (by kernel_rfl) ?_
          simp only [List.take_succ_cons, List.take_zero, List.drop_succ_cons, List.drop_zero]
          repeat (first
            | go_big_quiet_skip
            | ((refine BigFrame.wpQuiet_want rfl (fun K hK => quiet_mk ?_)); apply Exists.intro; refine ⟨fun wq hq => ?_, hK _ ?_⟩
               · have f0 := hq.cell c1'; have f1 := hq.cell c2; go_simp; (try simp only [↓IntWalk.iteOmega]); (try go_bits)
                 first | done | rfl | exact ⟨rfl, rfl⟩ | exact ⟨trivial, rfl⟩
               clear hK K; (try simp only [Act.put, List.setIfInBounds_toArray, List.set_cons_zero, List.set_cons_succ])))
          refine wpQuiet_nil ?_
          intro W10 hw10
          have V10 := V.below hw10.out
          have X10 := XB.gr hw10
          have c3 := hw10.cell c1'
          have f3 := V10.R.frz p hpl
          have V11 := V10.set p hpl y
          have X11 := X10.set_ne (a := ⟨rb, p, none⟩) (v := .int .u8 ((y.toNat : Nat) : Int)) (by show xb ≠ rb; omega)
          clear V XB c1' c2 f1 e1 hw10 V10 X10 hrl
          go_wp2_with fail
          go_roundg g2
          case rel => exact ⟨k + 1, _, by have := hK2.out; omega, by simp, V11, X11, by rw [← Nat.add_assoc, HP.out]; exact HF2.out⟩
          case measure => omega
end Go.Proofs.Ytkblkdojmfgneaa

namespace Go.Proofs.Ytkblkdojmfgneaa
open Go.RowKit

theorem wp_load_blk {P : Program} {op : Oper} {a : Act} {w : World} {K : Act → World → Prop} {Q : Exit → Act → World → Prop} (ty : TypeId) (x : Operand) (ho : op.op = .load ty x)
    (b : Nat) (hx : a.eval x = .pointer (some ⟨b, 0, none⟩)) (C : Array Value) (t : TypeId) (B : Blk w b C t) (d : TypeDesc)
    (hu : P.underlying ty = some d) (hd : d.isRow = true) (hi : (P.info? ty).map (·.size) = some C.size) (h : K (a.put op.dst (.agg C)) w) : op.wp P a w K Q := by
  refine wp_load_mid ty x ho b 0 hx C.toList d ?_ hu hd (by simpa using hi) (by simpa using h)
  intro j v hv
  rw [Nat.zero_add, B.cell]
  simpa using hv
theorem rep16 (w : World) : Calls Try.prog 24 #[.string ⟨#[107]⟩, .int .i64 16] w fun e w' => e = .returned (.string ⟨(List.replicate 16 (107 : UInt8)).toArray⟩) ∧ Below w.heap.size w w' := by
  have := Try.strings_Repeat ⟨#[107]⟩ 16 w (by omega) (by show 1 * 16 ≤ _; omega)
  rw [show (Lib.repeatL (⟨#[107]⟩ : ByteArray).data.toList 16) = List.replicate 16 107 by kernel_rfl] at this
  exact this
set_option maxHeartbeats 8000000 in
set_option maxRecDepth 20000 in
theorem awake06_any (w : World) : Calls Try.prog 14 #[] w fun e w' => e = .returned (.bool true) ∧ Below w.heap.size w w' := by
  obtain ⟨key, hkey⟩ : ∃ k, List.replicate 16 (107 : UInt8) = k := ⟨_, rfl⟩
  have hk : key.length = 16 := by rw [← hkey]; rfl
  have hrep := fun W => rep16 W
  rw [hkey] at hrep
  have hnw := fun W => new_any ⟨key.toArray⟩ W (by rw [ba_size]; simpa using hk)
  rw [show (⟨key.toArray⟩ : ByteArray).data.toList = key from rfl] at hnw
  have hstr := fun W => stream_any key 1 3 hk (by decide) (by decide) W
  have ht0 := fun W => cturn_any key 1 ⟨#[]⟩ hk (by decide) (by decide) W
  rw [show turnS key 1 (⟨#[]⟩ : ByteArray).data.toList = [] by rfl] at ht0
  have ht3 := fun W => cturn_any key 1 ⟨#[0, 0, 0]⟩ hk (by decide) (by decide) W
  rw [show turnS key 1 (⟨#[0, 0, 0]⟩ : ByteArray).data.toList = streamL key 1 3 from turnS_noughts key 1 3 hk] at ht3
  have hsl := streamL_len key 1 3 hk
  obtain ⟨st, hst⟩ : ∃ k, streamL key 1 3 = k := ⟨_, rfl⟩
  rw [hst] at hstr ht3 hsl
  have hone := kcells_one (keysN key 10)
  have hKs := keysN_size key hk
  obtain ⟨K, hK⟩ : ∃ K, (kcells (keysN key 10)).toArray = K := ⟨_, rfl⟩
  rw [hK] at hnw hstr ht0 ht3 hone hKs
  obtain ⟨S, hS⟩ : ∃ S : ByteArray, (⟨st.toArray⟩ : ByteArray) = S := ⟨_, rfl⟩
  have hSs : S.size = 3 := by rw [← hS, ba_size]; simpa using hsl
  have hSi : (S.size : Int) = 3 := by omega
  rw [hS] at hstr ht3
  obtain ⟨KS, hKS⟩ : ∃ S : ByteArray, (⟨key.toArray⟩ : ByteArray) = S := ⟨_, rfl⟩
  rw [hKS] at hrep hnw
  have H1 := Lib.hid hrep; have H2 := Lib.hid hnw; have H3 := Lib.hid hstr; have H4 := Lib.hid ht0; have H5 := Lib.hid ht3
  clear hrep hnw hstr ht0 ht3 hkey hk hsl hst hK hS hKS
  go_enter Try.func14, Try.ntmps14
  go_wp2_with fail
  refine (H1.out _).mono ?_
  rintro e W1 ⟨rfl, hb⟩
  have HB1 := Below.thn (Below.refl w.heap.size w) hb (Nat.le_refl _)
  have hs1 := HB1.size
  clear hb
  go_wp2_with fail
  refine (H2.out _).mono ?_
  rintro e W2 ⟨rfl, hb⟩
  have HB2 := Below.thn HB1 hb hs1
  have hs2 := HB2.size
  clear hb HB1 hs1
  go_upto_region 2 with (refine wpList_put rfl 29 _ _ rfl W2.heap.size _ _ 29 rfl rfl (Blk.new _ _ _) (by rw [hKs]; kernel_rfl) (hKs.trans zkey_size.symm) hone (fun W3 hp3 K3 => ?_))
  (try simp only [Act.put])
  obtain ⟨b, hb⟩ : ∃ b, W2.heap.size = b := ⟨_, rfl⟩
  have HB3 : Below w.heap.size w W3 := hp3.below (by omega) (by (repeat (first | (with_reducible assumption) | (with_reducible exact Below.refl _ _) | with_reducible apply bl_drewN | with_reducible apply Below.drew | (with_reducible apply bl_alloc; focus (first | (simp; done) | (simp; omega) | omega)) | (with_reducible apply bl_set; focus (first | (simp; done) | (simp; omega) | omega)))))
  rw [hb] at K3 hs2 ⊢
  clear hp3 hb HB2
  go_wp2_with (first | (refine wpList_load_row rfl 29 _ rfl b rfl 29 _ (0, 0) _ K3.out Try.underlying29 rfl (by rw [hKs]; kernel_rfl) ?_))
  refine (H3.out _).mono ?_
  rintro e W4 ⟨rfl, hb⟩
  have HB4 := Below.thn HB3 hb HB3.size
  have K4 := K3.below hb
  clear hb HB3 K3
  go_wp2_with fail
  refine (awake01x_any _).mono ?_
  rintro e W5 ⟨rfl, hb⟩
  have HB5 := Below.thn HB4 hb HB4.size
  have K5 := K4.below hb
  clear hb HB4 K4
  go_wp2_with fail
  refine (awake05x_any _).mono ?_
  rintro e W6 ⟨rfl, hb⟩
  have HB6 := Below.thn HB5 hb HB5.size
  have K6 := K5.below hb
  clear hb HB5 K5
  go_wp2_with fail
  (refine wp_load_blk _ _ rfl b rfl K _ K6 _ Try.underlying29 rfl (by rw [hKs]; kernel_rfl) ?_)
  apply_assumption
  (try simp only [Act.put])
  go_wp2_with fail
  refine (H4.out _).mono ?_
  rintro e W7 ⟨rfl, hb⟩
  have HB7 := Below.thn HB6 hb HB6.size
  have K7 := K6.below hb
  clear hb HB6 K6
  go_wp2_with fail
  (refine wp_load_blk _ _ rfl b rfl K _ K7 _ Try.underlying29 rfl (by rw [hKs]; kernel_rfl) ?_)
  apply_assumption
  (try simp only [Act.put])
  go_wp2_with fail
  refine (H5.out _).mono ?_
  rintro e W8 ⟨rfl, hb⟩
  have HB8 := Below.thn HB7 hb HB7.size
  clear hb HB7 K7
  go_wp2_with fail
  go_ret
  exact ⟨rfl, HB8⟩
set_option maxHeartbeats 4000000 in
theorem awake06x_any (w : World) : Calls Try.prog 67 #[] w fun e w' => e = .returned (.bool true) ∧ Below w.heap.size w w' := by
  go_enter Try.func67, Try.ntmps67
  go_wp2_with fail
  refine (awake06_any _).mono ?_
  rintro e W1 ⟨rfl, hb⟩
  go_wp2_with fail
  go_ret
  exact ⟨rfl, hb⟩
end Go.Proofs.Ytkblkdojmfgneaa
