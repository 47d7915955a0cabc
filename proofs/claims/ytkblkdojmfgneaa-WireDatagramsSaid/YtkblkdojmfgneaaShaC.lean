/- '[]byte(s)' of a string, and what is appended to it, one by one. The document's sums: rotr, K, Start. The document's sums: Pad. The document's step by the plain law's. -/
import Derived.Test.YtkblkdojmfgneaaBRow
import Derived.Test.YtkblkdojmfgneaaOwn
import Derived.ArgAppend
import Derived.Lib.ConvBytes
import Derived.Test.YtkblkdojmfgneaaShaB
namespace Go.Proofs.Ytkblkdojmfgneaa
open Go.RowKit

/-- A row of one-celled values that a conversion, or an append behind one, has made. -/
def CRow (w : World) (base : Nat) (e : TypeId) (v : Value) (n : Nat) (xs : List Value) : Prop :=
  xs.length = n ∧ ∃ g cap cur fr, v = .slice (some ⟨g, 0, none⟩) n cap ∧ base ≤ g ∧ w.heap[g]? = some (.cells cur e fr) ∧ n ≤ cap ∧ cap ≤ maxLen ∧ cur.size = cap ∧ cur.toList.take n = xs ∧ ∀ j, j < cap → ¬ (fr.1 ≤ j ∧ j < fr.2)
theorem CRow.below {w w' : World} {base : Nat} {e : TypeId} {v : Value} {n : Nat} {xs : List Value} (h : CRow w base e v n xs) (g : Below w.heap.size w w') : CRow w' base e v n xs := by
  obtain ⟨h1, b, cap, cur, fr, h2, h3, h4, h5⟩ := h
  exact ⟨h1, b, cap, cur, fr, h2, h3, (g.block b (Array.getElem?_eq_some_iff.1 h4).1).trans h4, h5⟩
theorem CRow.lt {w : World} {base : Nat} {e : TypeId} {v : Value} {n : Nat} {xs : List Value} (h : CRow w base e v n xs) : ∀ q, v.ownBlock = some q → base ≤ q ∧ q < w.heap.size := by
  obtain ⟨h1, b, cap, cur, fr, rfl, h3, h4, h5⟩ := h
  intro q hq
  obtain rfl : b = q := by simpa [Value.ownBlock] using hq
  exact ⟨h3, (Array.getElem?_eq_some_iff.1 h4).1⟩
theorem CRow.of_own {w : World} {base : Nat} {e : TypeId} {v : Value} {n : Nat} {xs : List Value} (h : w.ownsRow base e 1 v n xs) (hv : v ≠ .slice none 0 0) : CRow w base e v n xs := by
  obtain ⟨h1, h2 | ⟨g, cap, cur, h2, h3, h4, h5, h6, h7, h8⟩⟩ := h
  · exact absurd h2.1 hv
  · exact ⟨by omega, g, cap, cur, (0, 0), h2, h3, h4, h5, h6, by omega, by rw [← h8]; simp, fun j _ h => by omega⟩
theorem CRow.slice {w : World} {base : Nat} {e : TypeId} {v : Value} {n : Nat} {xs : List Value} (h : CRow w base e v n xs) : ∃ a c, v = .slice a n c := by
  obtain ⟨_, g, cap, cur, fr, rfl, _⟩ := h
  exact ⟨_, _, rfl⟩
theorem CRow.read {w : World} {base : Nat} {e : TypeId} {v : Value} {n : Nat} {xs : List Value} (h : CRow w base e v n xs) :
    ∃ g cap, v = .slice (some ⟨g, 0, none⟩) n cap ∧ base ≤ g ∧ g < w.heap.size ∧ ∀ j, j < n → w.cell? ⟨g, j, none⟩ = xs[j]? := by
  obtain ⟨h1, g, cap, cur, fr, h2, h3, h4, h5, h6, h7, h8, h9⟩ := h
  refine ⟨g, cap, h2, h3, (Array.getElem?_eq_some_iff.1 h4).1, fun j hj => ?_⟩
  rw [← h8, List.getElem?_take_of_lt hj, Array.getElem?_toList]
  simp [World.cell?, h4]
theorem CRow.bytes {w : World} {base : Nat} {e : TypeId} {v : Value} {n : Nat} {l : List UInt8} (h : CRow w base e v n (l.map bval)) :
    ∃ g cap, v = .slice (some ⟨g, 0, none⟩) n cap ∧ base ≤ g ∧ BRow w g l := by
  obtain ⟨h1, g, cap, cur, fr, h2, h3, h4, h5, h6, h7, h8, h9⟩ := h
  have hl : l.length = n := by simpa using h1
  have hc : ∀ i, i < n → w.cell? ⟨g, i, none⟩ = (l.map bval)[i]? := fun i hi => by
    rw [← h8, List.getElem?_take_of_lt hi, Array.getElem?_toList]
    simp [World.cell?, h4]
  refine ⟨g, cap, h2, h3, (Array.getElem?_eq_some_iff.1 h4).1, fun i hi => ?_, fun i hi => ?_⟩
  · rw [hc i (by omega), List.getElem?_map, List.getD_eq_getElem?_getD, List.getElem?_eq_getElem hi]; rfl
  · have := h9 i (by omega)
    simp only [World.frozen?, h4, decide_eq_false_iff_not, Bool.and_eq_false_iff]
    simp; omega
theorem CRow.alloc {w : World} {base : Nat} {e : TypeId} {v : Value} {n : Nat} {xs : List Value} (h : CRow w base e v n xs) (o : Obj) : CRow (w.alloc o) base e v n xs := h.below ((Below.refl _ _).alloc (Nat.le_refl _) o)
/-- The conversion. -/
theorem conv_crow (s : ByteArray) (w : World) (src dst e : TypeId) {u : TypeDesc} (hs : Try.prog.underlying src = some u) (hd : Try.prog.underlying dst = some (.slice e)) (he : Try.prog.underlying e = some (.int .u8)) (hm : s.size ≤ 100000000) :
    ∃ v w', (convert src dst (.string s)).run Try.prog w = .ok v w' ∧ CRow w' w.heap.size e v s.size (s.data.toList.map bval) ∧ Below w.heap.size w w' := by
  refine ⟨_, _, Lib.run_convert_string_bytes w src dst e s hs hd he, ⟨by simp, w.heap.size, _, _, _, rfl, Nat.le_refl _, Lib.bytesWorld_at_new w e s, ?_, ?_, ?_, ?_, ?_⟩, ⟨rfl, rfl, rfl, ?_, fun k hk => Lib.bytesWorld_at_old w e s k hk⟩⟩
  · exact grownCap_ge w s.size 0 e
  · exact grownCap_le_maxLen w s.size 0 e (by simp only [maxLen]; omega)
  · have := grownCap_ge w s.size 0 e
    simp [Lib.bytesCells]; omega
  · simp only [Lib.bytesCells, Array.toList_append, Array.toList_map]
    rw [List.take_left' (by simp)]; rfl
  · intro j hj h
    have : (Lib.bytesCells w e s).size = grownCap w s.size 0 e := by
      have := grownCap_ge w s.size 0 e
      simp [Lib.bytesCells]; omega
    simp only at h
    omega
  · rw [Lib.bytesWorld_size]; omega
/-- An append of one. -/
theorem run_append_crow (w : World) (t ty e : TypeId) (i : TypeInfo) (z : Value) (bytes base : Nat) (ht : Try.prog.underlying t = some (.slice e)) (hi : Try.prog.info? e = some i) (hz : i.zero = some z)
    (hsize : i.size = 1) (hby : i.bytes = bytes) (hzs : z.cells.size = 1) (v : Value) (n : Nat) (xs : List Value) (hown : CRow w base e v n xs)
    (a : Addr) (c : Nat) (u : Value) (hnew : w.cell? a = some u) (h1 : u.oneCell' = true) (h63 : n + 1 ≤ maxLen) (hbytes : (n + 1) * bytes ≤ 140737488355328) (hbase : base ≤ w.heap.size) :
    ∃ v' w', (Builtin.append_ #[t, t] ty #[v, .slice (some a) 1 c]).run Try.prog w = .ok v' w' ∧ CRow w' base e v' (n + 1) (xs ++ [u]) ∧ w.grownBy w' v.ownBlock := by
  obtain ⟨hl, g, cap, cur, fr, rfl, hg, hb, hle, hmax, hcs, htk, hfr⟩ := hown
  have hnews : ∀ (j : Nat) (x : Value), [u][j]? = some x → w.cell? (a.add j) = some x := fun j x hx => by
    cases j with
    | zero =>
      have e9 : a.add 0 = a := by simp [Addr.add]
      rw [e9, hnew]; simpa using hx
    | succ j => simp at hx
  by_cases hroom : n + 1 ≤ cap
  · have hr := run_append_room_cells (P := Try.prog) w t ty e i ht hi g 0 n cap a 1 c [u] (by simp [hsize]) hnews (by simpa using h1) hroom
      (fun j hj => by
        obtain rfl : j = 0 := by simpa using hj
        simp [World.cell?, hb, hsize]; omega)
      (fun j hj => by
        obtain rfl : j = 0 := by simpa using hj
        have := hfr n (by omega)
        simp only [World.frozen?, hb, hsize]
        simp; omega)
    have hsc : w.setCells g (0 + n * i.size) [u] = w.setCell ⟨g, n, none⟩ u := by rw [hsize, Nat.zero_add, Nat.mul_one]; rfl
    rw [hsc] at hr
    have hb2 : (w.setCell ⟨g, n, none⟩ u).heap[g]? = some (.cells (cur.setIfInBounds n u) e fr) := by
      simp [World.setCell, Array.getElem?_modify, hb]
    refine ⟨_, _, hr, ⟨by simp [hl], g, cap, _, fr, rfl, hg, hb2, hroom, hmax, by simp [hcs], ?_, hfr⟩, ⟨rfl, rfl, rfl, by simp, fun k hk hne => ?_⟩⟩
    · have hn : n < cur.toList.length := by simp; omega
      rw [Array.toList_setIfInBounds, List.take_add_one, List.take_set_of_le (Nat.le_refl n), List.getElem?_set_self hn, htk]; rfl
    · exact Below.heap_setCell w ⟨g, n, none⟩ u k (by intro h; subst h; exact hne rfl)
  · have holds : ∀ (j : Nat) (x : Value), xs[j]? = some x → w.cell? ((⟨g, 0, none⟩ : Addr).add j) = some x := fun j x hx => by
      have hj : j < n := by rw [← hl]; exact (List.getElem?_eq_some_iff.1 hx).1
      rw [← htk, List.getElem?_take_of_lt hj, Array.getElem?_toList] at hx
      rw [Addr.add_lit, Nat.zero_add]
      simp [World.cell?, hb, hx]
    obtain ⟨v', w', hr, ho, hgr⟩ := run_append_arg_grows (P := Try.prog) w t ty e i z 1 bytes ht hi hz hsize hby hzs (by decide) ⟨g, 0, none⟩ n cap xs (by omega) holds a 1 c [u] rfl hnews (by omega) h63 hbytes
    refine ⟨v', w', hr, CRow.of_own (own_weaken ho hbase) ?_, ⟨hgr.os, hgr.tape, hgr.output, hgr.size, fun k hk _ => hgr.block k hk (by simp)⟩⟩
    rintro rfl
    rcases ho.2 with ⟨_, h0⟩ | ⟨_, _, _, h0, _⟩
    · omega
    · simp at h0
theorem wpList_append_crow {ops : Array Oper} {rest : List Oper} {o : Oper} {a : Act} {w : World} {Q : Exit → Act → World → Prop} (hgd : o.guard = none) (s x : Operand) (t : TypeId)
    (ho : o.op = .call { callee := .builtin .append, args := #[s, x], argTypes := #[t, t] })
    (e : TypeId) (i : TypeInfo) (z : Value) (bytes base : Nat) (ht : Try.prog.underlying t = some (.slice e)) (hi : Try.prog.info? e = some i) (hz : i.zero = some z)
    (hsize : i.size = 1) (hby : i.bytes = bytes) (hzs : z.cells.size = 1) (v : Value) (n : Nat) (xs : List Value) (hs : a.eval s = v) (hown : CRow w base e v n xs)
    (ad : Addr) (c : Nat) (u : Value) (hx : a.eval x = .slice (some ad) 1 c) (hnew : w.cell? ad = some u) (h1 : u.oneCell' = true) (h63 : n + 1 ≤ maxLen) (hbytes : (n + 1) * bytes ≤ 140737488355328) (hbase : base ≤ w.heap.size)
    (hK : ∀ v' w', CRow w' base e v' (n + 1) (xs ++ [u]) → w.grownBy w' v.ownBlock → wpList Try.prog ops Q rest (a.put o.dst v') w') : wpList Try.prog ops Q (o :: rest) a w := by
  refine wpList_plain hgd fun K hK' => ?_
  obtain ⟨v', w', hrun, r, hg⟩ := run_append_crow w t o.type e i z bytes base ht hi hz hsize hby hzs v n xs hown ad c u hnew h1 h63 hbytes hbase
  unfold Oper.wp
  simp [execOp, ho, resolve, invoke, builtin, hs, hx, hrun, Result.andThen]
  exact hK' _ _ (hK v' w' r hg)
end Go.Proofs.Ytkblkdojmfgneaa

namespace Go.Proofs.Ytkblkdojmfgneaa
open Go.RowKit

set_option maxHeartbeats 4000000 in
set_option maxRecDepth 20000 in
theorem rrot_any (x n : Nat) (w : World) (hx : x < 4294967296) (h1 : 1 ≤ n) (h2 : n ≤ 31) :
    Calls Try.prog 105 #[.int .u32 x, .int .i64 n] w fun e w' => e = .returned (.int .u32 (rotr x n : Nat)) ∧ Below w.heap.size w w' := by
  obtain ⟨s, hs⟩ : ∃ s, 32 - n = s := ⟨_, rfl⟩
  have hsn : (32 : Int) - n = s := by omega
  have hs0 : (0 : Int) ≤ s := by omega
  have hn0 : (0 : Int) ≤ n := by omega
  have hsi : (s : Int) < 32 := by omega
  have hni : (n : Int) < 32 := by omega
  have hval : bits .or .u32 ((x : Int) / 2 ^ n) ((x : Int) * 2 ^ s % 4294967296) = ((rotr x n : Nat) : Int) := by
    have h5 := u32_or_nat (x / 2 ^ n) (x * 2 ^ s % 4294967296) (Nat.lt_of_le_of_lt (Nat.div_le_self _ _) hx) (Nat.mod_lt _ (by decide))
    have e1 : ((x : Int) * 2 ^ s % 4294967296) = ((x * 2 ^ s % 4294967296 : Nat) : Int) := by simp
    have e2 : ((x : Int) / 2 ^ n) = ((x / 2 ^ n : Nat) : Int) := by simp
    rw [e1, e2, h5]
    unfold rotr
    rw [Nat.shiftRight_eq_div_pow, Nat.shiftLeft_eq, hs]
  have HV := Lib.hid hval
  clear hval hs
  go_enter Try.func105, Try.ntmps105
  go_wp2_with fail
  refine wp_region_gr (by kernel_rfl) (by kernel_rfl) ?_
  repeat (first
    | go_big_quiet_skip
    | ((refine BigFrame.wpQuiet_want rfl (fun K hK => quiet_mk ?_)); apply Exists.intro; refine ⟨fun wq hq => ?_, hK _ ?_⟩
       · go_simp; (try simp only [↓IntWalk.iteOmega]); (try go_bits)
         first | done | rfl | exact ⟨rfl, rfl⟩ | exact ⟨trivial, rfl⟩
       clear hK K; (try simp only [Act.put, List.setIfInBounds_toArray, List.set_cons_zero, List.set_cons_succ])))
  refine wpQuiet_nil ?_
  intro W2 hw2
  go_wp2_with fail
  go_ret
  exact ⟨by rw [← HV.out]; rfl, hw2.out⟩
set_option maxHeartbeats 4000000 in
set_option maxRecDepth 20000 in
theorem rk_any (w : World) : Calls Try.prog 104 #[] w fun e w' => ∃ b, e = .returned (.slice (some ⟨b, 0, none⟩) 64 64) ∧ w.heap.size ≤ b ∧ Blk w' b (nums .u32 constK).toArray 129 ∧ Below w.heap.size w w' := by
  go_enter Try.func104, Try.ntmps104
  go_wp2_with fail
  go_ret
  exact ⟨_, rfl, Nat.le_refl _, (Blk.new _ _ _).conv rfl, (by (repeat (first | (with_reducible assumption) | (with_reducible exact Below.refl _ _) | with_reducible apply bl_drewN | with_reducible apply Below.drew | (with_reducible apply bl_alloc; focus (first | (simp; done) | (simp; omega) | omega)) | (with_reducible apply bl_set; focus (first | (simp; done) | (simp; omega) | omega)))))⟩
set_option maxHeartbeats 4000000 in
set_option maxRecDepth 20000 in
theorem rstart_any (w : World) : Calls Try.prog 100 #[] w fun e w' => ∃ b, e = .returned (.slice (some ⟨b, 0, none⟩) 8 8) ∧ w.heap.size ≤ b ∧ Blk w' b (nums .u32 constH).toArray 129 ∧ Below w.heap.size w w' := by
  go_enter Try.func100, Try.ntmps100
  go_wp2_with fail
  go_ret
  exact ⟨_, rfl, Nat.le_refl _, (Blk.new _ _ _).conv rfl, (by (repeat (first | (with_reducible assumption) | (with_reducible exact Below.refl _ _) | with_reducible apply bl_drewN | with_reducible apply Below.drew | (with_reducible apply bl_alloc; focus (first | (simp; done) | (simp; omega) | omega)) | (with_reducible apply bl_set; focus (first | (simp; done) | (simp; omega) | omega)))))⟩
/-- Numbers that lie in a row. -/
def Row32 (w : World) (b : Nat) (l : List Nat) : Prop := b < w.heap.size ∧ ∀ i, i < l.length → w.cell? ⟨b, i, none⟩ = some (.int .u32 (l.getD i 0 : Nat))
theorem Row32.below {w w' : World} {b : Nat} {l : List Nat} (h : Row32 w b l) (g : Below w.heap.size w w') : Row32 w' b l :=
  ⟨Nat.lt_of_lt_of_le h.1 g.size, fun i hi => (g.cell (p := ⟨b, i, none⟩) h.1).trans (h.2 i hi)⟩
theorem Row32.of_blk {w : World} {b : Nat} {l : List Nat} {t : TypeId} (B : Blk w b (nums .u32 l).toArray t) : Row32 w b l :=
  ⟨B.lt, fun i hi => by rw [B.cell, List.getElem?_toArray, nums_get _ _ _ hi]⟩
end Go.Proofs.Ytkblkdojmfgneaa

namespace Go.Proofs.Ytkblkdojmfgneaa
open Go.RowKit

/-- The bytes so far, j noughts of so many. -/
def padAt (s : List UInt8) (j : Nat) : List UInt8 := s ++ [128] ++ List.replicate j 0
theorem padAt_len (s : List UInt8) (j : Nat) : (padAt s j).length = s.length + 1 + j := by simp [padAt]; omega
theorem padAt_next (s : List UInt8) (j : Nat) : (padAt s j).map bval ++ [.int .u8 0] = (padAt s (j + 1)).map bval := by
  simp [padAt, List.replicate_succ', bval]
/-- .. and of the number's bytes all but so many. -/
def padE (s : List UInt8) (g : Nat) : List UInt8 := padAt s (padN s.length) ++ (be64 (8 * s.length)).take (8 - g)
theorem be64_len (n : Nat) : (be64 n).length = 8 := by simp [be64]
theorem padE_len (s : List UInt8) (g : Nat) (h : g ≤ 8) : (padE s g).length = s.length + 9 + padN s.length - g := by
  unfold padE
  rw [List.length_append, padAt_len, List.length_take, be64_len]; omega
theorem padE_next (s : List UInt8) (g : Nat) (h : g < 8) : (padE s (g + 1)).map bval ++ [.int .u8 ((8 * s.length / 2 ^ (8 * g) % 256 : Nat) : Int)] = (padE s g).map bval := by
  unfold padE
  rw [show 8 - g = (8 - (g + 1)) + 1 by omega, List.take_add_one, List.getElem?_eq_getElem (by rw [be64_len]; omega)]
  simp only [Option.toList, List.map_append, List.map_cons, List.map_nil, ← List.append_assoc]
  congr 1
  simp only [be64, bval, List.getElem_map, List.getElem_range, UInt8.toNat_ofNat']
  rw [show 7 - (8 - (g + 1)) = g by omega, show (256 : Nat) = 2 ^ 8 by rfl, ← Nat.pow_mul]
theorem padE_all (s : List UInt8) : padE s 0 = wholeL s := by
  unfold padE padAt wholeL
  rw [List.take_of_length_le (by rw [be64_len]; omega)]
set_option maxHeartbeats 4000000 in
set_option maxRecDepth 20000 in
theorem rpad_any (s : ByteArray) (w : World) (hs : s.size ≤ 10000) :
    Calls Try.prog 99 #[.string s] w fun e w' => e = .returned (.string ⟨(wholeL s.data.toList).toArray⟩) ∧ Below w.heap.size w w' := by
  obtain ⟨i0, hi0, hz0, hz1, hz2⟩ := info_parts info5
  obtain ⟨v1, W1, hcv, hrow, HB⟩ := conv_crow s w 9 36 5 Try.underlying9 Try.underlying36 Try.underlying5 (by omega)
  obtain ⟨n, hn⟩ : ∃ n, s.size = n := ⟨_, rfl⟩
  obtain ⟨l, hl⟩ : ∃ l, s.data.toList = l := ⟨_, rfl⟩
  have hln : l.length = n := by rw [← hl]; exact hn
  rw [hl] at hrow ⊢
  rw [hn] at hrow
  obtain ⟨p, hp⟩ : ∃ p, padN n = p := ⟨_, rfl⟩
  have hp64 : p < 64 := by rw [← hp]; exact Nat.mod_lt _ (by decide)
  have hm8 : (n : Int) * 8 = ((8 * n : Nat) : Int) := by omega
  obtain ⟨m8, hm⟩ : ∃ k, 8 * n = k := ⟨_, rfl⟩
  rw [hm] at hm8
  have hmod : ∀ j, j ≤ p → (((n + 1 + j : Nat) : Int)).tmod 64 = (((n + 1 + j) % 64 : Nat) : Int) := fun j _ => (Int.ofNat_tmod (n + 1 + j) 64).symm
  have h56 : ∀ j, j ≤ p → ((n + 1 + j) % 64 = 56 ↔ j = p) := by
    intro j hj
    rw [← hp] at hj ⊢
    unfold padN at hj ⊢
    omega
  have hPN : ∀ g, g < 8 → (padE l (g + 1)).map bval ++ [.int .u8 ((m8 / 2 ^ (8 * g) % 256 : Nat) : Int)] = (padE l g).map bval := fun g hg => by
    have := padE_next l g hg
    rw [hln, hm] at this; exact this
  have hPL : ∀ g, g ≤ 8 → (padE l g).length = n + 9 + p - g := fun g hg => by rw [padE_len l g hg, hln, hp]
  have hP8 : padAt l p = padE l 8 := by unfold padE; rw [hln, hp]; simp
  have HMOD := Lib.hid hmod; have H56 := Lib.hid h56; have HPN := Lib.hid hPN; have HPL := Lib.hid hPL; have HP8 := Lib.hid hP8; have HLN := Lib.hid hln
  rw [hn] at hs
  have HN := Lib.hid hn
  clear hmod h56 hPN hPL hP8 hln hm hp hl
  obtain ⟨av, cv, rfl⟩ := hrow.slice
  have hns := HN.out
  go_enter Try.func99, Try.ntmps99
  have HBsz := HB.size
  go_wp2_with (at_builtin; refine wpList_append_crow rfl _ _ 36 rfl 5 i0 _ 1 w.heap.size Try.underlying36 hi0 hz0 hz1 hz2 rfl _ _ _ rfl (CRow.alloc hrow _) ⟨W1.heap.size, 0, none⟩ 1 (.int .u8 128) rfl (by rw [(Blk.new W1 _ _).cell]; rfl) rfl ?c1 ?c2 ?c3 ?_)
  case c1 => unfold maxLen; omega
  case c2 => omega
  case c3 => first | omega | (simp; omega)
  intro v2 W2 ho2 hg2
  have hb2 : Below w.heap.size w W2 := (HB.alloc HB.size _).grown hg2 (by have := HB.size; simp; omega) (fun q hq => (CRow.lt hrow q hq).1)
  clear hg2 HBsz
  obtain ⟨a2, c2, rfl⟩ := ho2.slice
  have ho3 : CRow W2 w.heap.size 5 (.slice a2 (n + 1) c2) (n + 1) ((padAt l 0).map bval) := by
    have e : (padAt l 0).map bval = l.map bval ++ [.int .u8 128] := by simp [padAt, bval]
    rw [e]; exact ho2
  clear ho2 hrow HB
  go_wp2_with fail
  go_loopg [4] p (fun gk t4 wr => ∃ j : Nat, j + gk = p ∧ CRow wr w.heap.size 5 t4 (n + 1 + j) ((padAt l j).map bval) ∧ Below w.heap.size w wr)
  case atStart => exact ⟨0, by omega, ho3, hb2⟩
  case round =>
    clear ho3 hb2
    obtain ⟨j, hj, ho, HB⟩ := hrel
    obtain ⟨a4, c4, rfl⟩ := ho.slice
    have hmj := HMOD.out j (by omega)
    have h5 := H56.out j (by omega)
    obtain ⟨q, hq⟩ : ∃ q, n + 1 + j = q := ⟨_, rfl⟩
    rw [hq] at ho hmj h5 ⊢
    obtain ⟨r, hr⟩ : ∃ r, q % 64 = r := ⟨_, rfl⟩
    rw [hr] at hmj h5
    have hq2 : q ≤ 10100 := by omega
    cases gk with
    | zero =>
      have hr5 : (r : Int) = 56 := by have := h5.2 (by omega); omega
      obtain rfl : j = p := by omega
      have HQ := Lib.hid hq
      clear hj h5 hr hq
      go_wp2_with fail
      have hcv2 : True := trivial
      go_loopg [4, 5] 8 (fun gk t4 t5 wr => t5 = .int .i64 ((gk : Int) - 1) ∧ gk ≤ 8 ∧ CRow wr w.heap.size 5 t4 (n + 9 + j - gk) ((padE l gk).map bval) ∧ Below w.heap.size w wr)
      case atStart =>
        refine ⟨rfl, Nat.le_refl _, ?_, HB⟩
        rw [← HP8.out, show n + 9 + j - 8 = q by have := HQ.out; omega]; exact ho
      case round =>
        clear ho HB hmj hr5 HQ
        obtain ⟨rfl, hg8, ho, HB⟩ := hrel
        obtain ⟨a5, c5, rfl⟩ := ho.slice
        obtain ⟨q, hq⟩ : ∃ q, n + 9 + j - gk = q := ⟨_, rfl⟩
        rw [hq] at ho ⊢
        cases gk with
        | zero =>
          have hneg : ¬ (0 : Int) ≤ ((0 : Nat) : Int) - 1 := by omega
          obtain ⟨g, cap, hv, hg, R⟩ := ho.bytes
          simp only [Value.slice.injEq, true_and] at hv
          obtain ⟨rfl, rfl⟩ := hv
          have hres : padE l 0 = wholeL l := padE_all l
          rw [hres] at R
          have hcv3 : (convert 36 9 (.slice (some ⟨g, 0, none⟩) q c5)).run Try.prog wr = .ok (.string ⟨(wholeL l).toArray⟩) wr := by
            have h5 := Lib.run_convert_whole (P := Try.prog) wr 36 5 9 Try.underlying36 Try.underlying5 Try.underlying9 g 0 ⟨(wholeL l).toArray⟩ (row_bytes R) c5
            have hz : (⟨(wholeL l).toArray⟩ : ByteArray).size = q := by
              show (wholeL l).length = q
              rw [← hres, HPL.out 0 (by omega)]; omega
            rw [hz] at h5
            exact h5
          clear ho R hg hres hq hcv
          go_wp2_with fail
          go_ret
          exact ⟨rfl, HB⟩
        | succ g =>
          have hgi : ((g + 1 : Nat) : Int) - 1 = g := by omega
          rw [hgi]
          have hg0 : (0 : Int) ≤ (g : Int) := by omega
          obtain ⟨e8, he8⟩ : ∃ e, 8 * g = e := ⟨_, rfl⟩
          have hei : (8 : Int) * g = (e8 : Int) := by omega
          have he64 : (e8 : Int) < 64 := by omega
          have he0 : (0 : Int) ≤ (e8 : Int) := by omega
          have hPN := HPN.out g (by omega)
          rw [he8] at hPN
          obtain ⟨c, hc⟩ : ∃ c, m8 / 2 ^ e8 % 256 = c := ⟨_, rfl⟩
          have hci : (m8 : Int) / 2 ^ e8 % 256 = (c : Int) := by rw [← hc]; simp
          rw [hc] at hPN
          have HPN2 := Lib.hid hPN
          have HG8 := Lib.hid hg8
          have HQ := Lib.hid hq
          have hq2 : q ≤ 10100 := by omega
          clear hPN hc he8 hgi hg8 hq hcv
          have HBsz := HB.size
          go_wp2_with (at_builtin; refine wpList_append_crow rfl _ _ 36 rfl 5 i0 _ 1 w.heap.size Try.underlying36 hi0 hz0 hz1 hz2 rfl _ _ _ rfl (CRow.alloc ho _) ⟨wr.heap.size, 0, none⟩ 1 (.int .u8 c) rfl (by rw [(Blk.new wr _ _).cell]; rfl) rfl ?c1 ?c2 ?c3 ?_)
          case c1 => unfold maxLen; omega
          case c2 => omega
          case c3 => first | omega | (simp; omega)
          intro v2 W2 ho2 hg2
          have hb2 : Below w.heap.size w W2 := (HB.alloc HB.size _).grown hg2 (by have := HB.size; simp; omega) (fun q hq => (CRow.lt ho q hq).1)
          clear hg2 HBsz
          rw [HPN2.out] at ho2
          go_wp2_with fail
          go_roundg g
          case rel => exact ⟨rfl, by have := HG8.out; omega, by rw [show n + 9 + j - g = q + 1 by have := HQ.out; have := HG8.out; omega]; exact ho2, hb2⟩
          case measure => omega
    | succ gk =>
      have hr5 : ¬ (r : Int) = 56 := by
        intro h
        have := h5.1 (by omega)
        omega
      have HQ := Lib.hid hq
      have HJ := Lib.hid hj
      clear hj h5 hr hq hcv
      have HBsz := HB.size
      go_wp2_with (at_builtin; refine wpList_append_crow rfl _ _ 36 rfl 5 i0 _ 1 w.heap.size Try.underlying36 hi0 hz0 hz1 hz2 rfl _ _ _ rfl (CRow.alloc ho _) ⟨wr.heap.size, 0, none⟩ 1 (.int .u8 0) rfl (by rw [(Blk.new wr _ _).cell]; rfl) rfl ?c1 ?c2 ?c3 ?_)
      case c1 => unfold maxLen; omega
      case c2 => omega
      case c3 => first | omega | (simp; omega)
      intro v2 W2 ho2 hg2
      have hb2 : Below w.heap.size w W2 := (HB.alloc HB.size _).grown hg2 (by have := HB.size; simp; omega) (fun q hq => (CRow.lt ho q hq).1)
      clear hg2 HBsz
      rw [padAt_next] at ho2
      go_wp2_with fail
      go_roundg gk
      case rel => exact ⟨j + 1, by have := HJ.out; omega, by rw [show n + 1 + (j + 1) = q + 1 by have := HQ.out; omega]; exact ho2, hb2⟩
      case measure => omega
end Go.Proofs.Ytkblkdojmfgneaa

namespace Go.Proofs.Ytkblkdojmfgneaa

/-- The words, the first n of them. -/
def sched (s : List UInt8) : Nat → List Nat
  | 0 => []
  | n + 1 => sched s n ++ [nextW s (sched s n) n]
theorem sched_len (s : List UInt8) : ∀ n, (sched s n).length = n
  | 0 => rfl
  | n + 1 => by rw [sched, List.length_append, sched_len s n]; rfl
theorem sched_get (s : List UInt8) (i : Nat) : ∀ n, i < n → (sched s n).getD i 0 = nextW s (sched s i) i
  | 0, h => by omega
  | n + 1, h => by
    rw [sched, List.getD_eq_getElem?_getD]
    by_cases hi : i < n
    · rw [List.getElem?_append_left (by rw [sched_len]; exact hi), ← List.getD_eq_getElem?_getD, sched_get s i n hi]
    · obtain rfl : i = n := by omega
      rw [List.getElem?_append_right (by rw [sched_len]; exact Nat.le_refl _), sched_len, Nat.sub_self]; rfl
theorem sched_lt (s : List UInt8) : ∀ n j, (sched s n).getD j 0 < 4294967296
  | 0, j => by simp [sched]
  | n + 1, j => getD_snoc_lt _ _ _ (sched_lt s n) (nextW_lt _ _ _)
def rounds2 (WW : List Nat) : Nat → Nat → St → St
  | 0, _, v => v
  | n + 1, i, v => rounds2 WW n (i + 1) (roundL v (constK.getD i 0) (WW.getD i 0))
theorem rounds2_eq (s : List UInt8) (M : Nat) : ∀ n i v, i + n ≤ M → roundsGo s n i (sched s i) v = rounds2 (sched s M) n i v
  | 0, _, _, _ => rfl
  | n + 1, i, v, h => by
    have h5 : sched s i ++ [nextW s (sched s i) i] = sched s (i + 1) := rfl
    rw [roundsGo, h5, rounds2_eq s M n (i + 1) _ (by omega), rounds2, sched_get s i M (by omega)]
theorem ch_eq (e f g : Nat) (he : e < 4294967296) (hg : g < 4294967296) : (e &&& f) ^^^ ((4294967295 - e) &&& g) = chL e f g := by
  apply Nat.eq_of_testBit_eq
  intro i
  have h1 : (4294967295 - e).testBit i = (decide (i < 32) && !e.testBit i) := by
    have := Nat.testBit_two_pow_sub_succ (n := 32) (x := e) he i
    rw [show 2 ^ 32 - (e + 1) = 4294967295 - e by omega] at this
    exact this
  unfold chL
  simp only [Nat.testBit_xor, Nat.testBit_and, h1]
  by_cases hi : i < 32
  · rw [decide_eq_true hi]
    cases e.testBit i <;> cases f.testBit i <;> cases g.testBit i <;> rfl
  · have hg0 : g.testBit i = false := Nat.testBit_lt_two_pow (Nat.lt_of_lt_of_le hg (show 2 ^ 32 ≤ 2 ^ i from Nat.pow_le_pow_right (by decide) (by omega)))
    have he0 : e.testBit i = false := Nat.testBit_lt_two_pow (Nat.lt_of_lt_of_le he (show 2 ^ 32 ≤ 2 ^ i from Nat.pow_le_pow_right (by decide) (by omega)))
    rw [hg0, he0]; simp
theorem maj_eq (a b c : Nat) : ((a &&& b) ^^^ (a &&& c)) ^^^ (b &&& c) = majL a b c := by
  apply Nat.eq_of_testBit_eq
  intro i
  unfold majL
  simp only [Nat.testBit_xor, Nat.testBit_and, Nat.testBit_or]
  cases a.testBit i <;> cases b.testBit i <;> cases c.testBit i <;> rfl
/-- A word's bytes, the first j of them. -/
def bpart (s : List UInt8) (i : Nat) : Nat → Nat
  | 0 => 0
  | j + 1 => bpart s i j * 256 + (s.getD (4 * i + j) 0).toNat
theorem bpart_lt (s : List UInt8) (i : Nat) : ∀ j, bpart s i j < 256 ^ j
  | 0 => by show 0 < 1; decide
  | j + 1 => by
    have := bpart_lt s i j
    have := (s.getD (4 * i + j) 0).toNat_lt
    rw [bpart, Nat.pow_succ]; omega
theorem bpart_all (s : List UInt8) (i : Nat) : bpart s i 4 = be32 s i := by
  simp only [bpart, be32, Nat.add_zero]; omega
theorem cellsW_same (W : List Nat) (n : Nat) (h : W.length < n) : (cellsW W n).setIfInBounds W.length (.int .u32 ((0 : Nat) : Int)) = cellsW W n := by
  have h1 := cellsW_next W n h
  apply Array.ext'
  rw [Array.toList_setIfInBounds]
  apply List.ext_getElem?
  intro j
  by_cases hj : W.length = j
  · subst hj
    rw [List.getElem?_set_self (by rw [Array.length_toList]; exact (Array.getElem?_eq_some_iff.1 h1).1), Array.getElem?_toList, h1]; rfl
  · rw [List.getElem?_set_ne hj]
theorem own_blk {w : World} {base g n : Nat} {e : TypeId} {xs : List Value} (h : w.ownsRow base e 1 (.slice (some ⟨g, 0, none⟩) n n) n xs) (hn : 0 < n) : Blk w g xs.toArray e := by
  rcases h.2 with ⟨_, h5⟩ | ⟨q, c, cur, h5, h6, h7, h8, h9, h10, h11⟩
  · omega
  · simp only [Value.slice.injEq, Option.some.injEq, Addr.mk.injEq, and_true, true_and] at h5
    obtain ⟨rfl, rfl⟩ := h5
    refine ⟨h7.trans ?_⟩
    rw [← h11, List.take_of_length_le (by rw [Array.length_toList]; omega)]
/-- The sums at the end, the first n of them. -/
def outsL (H V : List Nat) (n : Nat) : List Nat := (List.range n).map fun i => add32 (H.getD i 0) (V.getD i 0)
theorem outsL_next (H V : List Nat) (n : Nat) : outsL H V n ++ [add32 (H.getD n 0) (V.getD n 0)] = outsL H V (n + 1) := by
  simp [outsL, List.range_succ]
theorem outsL_len (H V : List Nat) (n : Nat) : (outsL H V n).length = n := by simp [outsL]
end Go.Proofs.Ytkblkdojmfgneaa
