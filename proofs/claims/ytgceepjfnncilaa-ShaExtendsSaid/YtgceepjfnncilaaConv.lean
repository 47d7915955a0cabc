/- '[]byte(s)' of a string, and what is appended to it, one by one. -/
import Derived.Test.YtgceepjfnncilaaBRow
import Derived.Test.YtgceepjfnncilaaOwn
import Derived.ArgAppend
import Derived.Lib.ConvBytes
namespace Go.Proofs.Ytgceepjfnncilaa
open Go.RowKit

/-- A row of one-celled values that a conversion, or an append behind one, has made. -/
def CRow (w : World) (base : Nat) (e : TypeId) (v : Value) (n : Nat) (xs : List Value) : Prop :=
  xs.length = n ∧ ∃ g cap cur fr, v = .slice (some ⟨g, 0, none⟩) n cap ∧ base ≤ g ∧ w.heap[g]? = some (.cells cur e fr) ∧ n ≤ cap ∧ cap ≤ maxLen ∧ cur.size = cap ∧ cur.toList.take n = xs ∧ ∀ j, j < cap → ¬ (fr.1 ≤ j ∧ j < fr.2)
theorem CRow.below {w w' : World} {base : Nat} {e : TypeId} {v : Value} {n : Nat} {xs : List Value} (h : CRow w base e v n xs) (g : Below w.heap.size w w') : CRow w' base e v n xs := by
  obtain ⟨h1, b, cap, cur, fr, h2, h3, h4, h5⟩ := h
  exact ⟨h1, b, cap, cur, fr, h2, h3, (g.block b (Array.getElem?_eq_some_iff.1 h4).1).trans h4, h5⟩
theorem CRow.lt {w : World} {base : Nat} {e : TypeId} {v : Value} {n : Nat} {xs : List Value} (h : CRow w base e v n xs) : ∀ q, v.ownBlock = some q → base ≤ q ∧ q < w.heap.size := by
  obtain ⟨h1, b, cap, cur, fr, rfl, h3, h4, h5⟩ := h
  intro q hq
  obtain rfl : b = q := by simpa [Value.ownBlock] using hq
  exact ⟨h3, (Array.getElem?_eq_some_iff.1 h4).1⟩
theorem CRow.of_own {w : World} {base : Nat} {e : TypeId} {v : Value} {n : Nat} {xs : List Value} (h : w.ownsRow base e 1 v n xs) (hv : v ≠ .slice none 0 0) : CRow w base e v n xs := by
  obtain ⟨h1, h2 | ⟨g, cap, cur, h2, h3, h4, h5, h6, h7, h8⟩⟩ := h
  · exact absurd h2.1 hv
  · exact ⟨by omega, g, cap, cur, (0, 0), h2, h3, h4, h5, h6, by omega, by rw [← h8]; simp, fun j _ h => by omega⟩
theorem CRow.slice {w : World} {base : Nat} {e : TypeId} {v : Value} {n : Nat} {xs : List Value} (h : CRow w base e v n xs) : ∃ a c, v = .slice a n c := by
  obtain ⟨_, g, cap, cur, fr, rfl, _⟩ := h
  exact ⟨_, _, rfl⟩
theorem CRow.read {w : World} {base : Nat} {e : TypeId} {v : Value} {n : Nat} {xs : List Value} (h : CRow w base e v n xs) :
    ∃ g cap, v = .slice (some ⟨g, 0, none⟩) n cap ∧ base ≤ g ∧ g < w.heap.size ∧ ∀ j, j < n → w.cell? ⟨g, j, none⟩ = xs[j]? := by
  obtain ⟨h1, g, cap, cur, fr, h2, h3, h4, h5, h6, h7, h8, h9⟩ := h
  refine ⟨g, cap, h2, h3, (Array.getElem?_eq_some_iff.1 h4).1, fun j hj => ?_⟩
  rw [← h8, List.getElem?_take_of_lt hj, Array.getElem?_toList]
  simp [World.cell?, h4]
theorem CRow.bytes {w : World} {base : Nat} {e : TypeId} {v : Value} {n : Nat} {l : List UInt8} (h : CRow w base e v n (l.map bval)) :
    ∃ g cap, v = .slice (some ⟨g, 0, none⟩) n cap ∧ base ≤ g ∧ BRow w g l := by
  obtain ⟨h1, g, cap, cur, fr, h2, h3, h4, h5, h6, h7, h8, h9⟩ := h
  have hl : l.length = n := by simpa using h1
  have hc : ∀ i, i < n → w.cell? ⟨g, i, none⟩ = (l.map bval)[i]? := fun i hi => by
    rw [← h8, List.getElem?_take_of_lt hi, Array.getElem?_toList]
    simp [World.cell?, h4]
  refine ⟨g, cap, h2, h3, (Array.getElem?_eq_some_iff.1 h4).1, fun i hi => ?_, fun i hi => ?_⟩
  · rw [hc i (by omega), List.getElem?_map, List.getD_eq_getElem?_getD, List.getElem?_eq_getElem hi]; rfl
  · have := h9 i (by omega)
    simp only [World.frozen?, h4, decide_eq_false_iff_not, Bool.and_eq_false_iff]
    simp; omega
theorem CRow.alloc {w : World} {base : Nat} {e : TypeId} {v : Value} {n : Nat} {xs : List Value} (h : CRow w base e v n xs) (o : Obj) : CRow (w.alloc o) base e v n xs := h.below ((Below.refl _ _).alloc (Nat.le_refl _) o)
/-- The conversion. -/
theorem conv_crow (s : ByteArray) (w : World) (src dst e : TypeId) {u : TypeDesc} (hs : Try.prog.underlying src = some u) (hd : Try.prog.underlying dst = some (.slice e)) (he : Try.prog.underlying e = some (.int .u8)) (hm : s.size ≤ 100000000) :
    ∃ v w', (convert src dst (.string s)).run Try.prog w = .ok v w' ∧ CRow w' w.heap.size e v s.size (s.data.toList.map bval) ∧ Below w.heap.size w w' := by
  refine ⟨_, _, Lib.run_convert_string_bytes w src dst e s hs hd he, ⟨by simp, w.heap.size, _, _, _, rfl, Nat.le_refl _, Lib.bytesWorld_at_new w e s, ?_, ?_, ?_, ?_, ?_⟩, ⟨rfl, rfl, rfl, ?_, fun k hk => Lib.bytesWorld_at_old w e s k hk⟩⟩
  · exact grownCap_ge w s.size 0 e
  · exact grownCap_le_maxLen w s.size 0 e (by simp only [maxLen]; omega)
  · have := grownCap_ge w s.size 0 e
    simp [Lib.bytesCells]; omega
  · simp only [Lib.bytesCells, Array.toList_append, Array.toList_map]
    rw [List.take_left' (by simp)]; rfl
  · intro j hj h
    have : (Lib.bytesCells w e s).size = grownCap w s.size 0 e := by
      have := grownCap_ge w s.size 0 e
      simp [Lib.bytesCells]; omega
    simp only at h
    omega
  · rw [Lib.bytesWorld_size]; omega
/-- An append of one. -/
theorem run_append_crow (w : World) (t ty e : TypeId) (i : TypeInfo) (z : Value) (bytes base : Nat) (ht : Try.prog.underlying t = some (.slice e)) (hi : Try.prog.info? e = some i) (hz : i.zero = some z)
    (hsize : i.size = 1) (hby : i.bytes = bytes) (hzs : z.cells.size = 1) (v : Value) (n : Nat) (xs : List Value) (hown : CRow w base e v n xs)
    (a : Addr) (c : Nat) (u : Value) (hnew : w.cell? a = some u) (h1 : u.oneCell' = true) (h63 : n + 1 ≤ maxLen) (hbytes : (n + 1) * bytes ≤ 140737488355328) (hbase : base ≤ w.heap.size) :
    ∃ v' w', (Builtin.append_ #[t, t] ty #[v, .slice (some a) 1 c]).run Try.prog w = .ok v' w' ∧ CRow w' base e v' (n + 1) (xs ++ [u]) ∧ w.grownBy w' v.ownBlock := by
  obtain ⟨hl, g, cap, cur, fr, rfl, hg, hb, hle, hmax, hcs, htk, hfr⟩ := hown
  have hnews : ∀ (j : Nat) (x : Value), [u][j]? = some x → w.cell? (a.add j) = some x := fun j x hx => by
    cases j with
    | zero =>
      have e9 : a.add 0 = a := by simp [Addr.add]
      rw [e9, hnew]; simpa using hx
    | succ j => simp at hx
  by_cases hroom : n + 1 ≤ cap
  · have hr := run_append_room_cells (P := Try.prog) w t ty e i ht hi g 0 n cap a 1 c [u] (by simp [hsize]) hnews (by simpa using h1) hroom
      (fun j hj => by
        obtain rfl : j = 0 := by simpa using hj
        simp [World.cell?, hb, hsize]; omega)
      (fun j hj => by
        obtain rfl : j = 0 := by simpa using hj
        have := hfr n (by omega)
        simp only [World.frozen?, hb, hsize]
        simp; omega)
    have hsc : w.setCells g (0 + n * i.size) [u] = w.setCell ⟨g, n, none⟩ u := by rw [hsize, Nat.zero_add, Nat.mul_one]; rfl
    rw [hsc] at hr
    have hb2 : (w.setCell ⟨g, n, none⟩ u).heap[g]? = some (.cells (cur.setIfInBounds n u) e fr) := by
      simp [World.setCell, Array.getElem?_modify, hb]
    refine ⟨_, _, hr, ⟨by simp [hl], g, cap, _, fr, rfl, hg, hb2, hroom, hmax, by simp [hcs], ?_, hfr⟩, ⟨rfl, rfl, rfl, by simp, fun k hk hne => ?_⟩⟩
    · have hn : n < cur.toList.length := by simp; omega
      rw [Array.toList_setIfInBounds, List.take_add_one, List.take_set_of_le (Nat.le_refl n), List.getElem?_set_self hn, htk]; rfl
    · exact Below.heap_setCell w ⟨g, n, none⟩ u k (by intro h; subst h; exact hne rfl)
  · have holds : ∀ (j : Nat) (x : Value), xs[j]? = some x → w.cell? ((⟨g, 0, none⟩ : Addr).add j) = some x := fun j x hx => by
      have hj : j < n := by rw [← hl]; exact (List.getElem?_eq_some_iff.1 hx).1
      rw [← htk, List.getElem?_take_of_lt hj, Array.getElem?_toList] at hx
      rw [Addr.add_lit, Nat.zero_add]
      simp [World.cell?, hb, hx]
    obtain ⟨v', w', hr, ho, hgr⟩ := run_append_arg_grows (P := Try.prog) w t ty e i z 1 bytes ht hi hz hsize hby hzs (by decide) ⟨g, 0, none⟩ n cap xs (by omega) holds a 1 c [u] rfl hnews (by omega) h63 hbytes
    refine ⟨v', w', hr, CRow.of_own (own_weaken ho hbase) ?_, ⟨hgr.os, hgr.tape, hgr.output, hgr.size, fun k hk _ => hgr.block k hk (by simp)⟩⟩
    rintro rfl
    rcases ho.2 with ⟨_, h0⟩ | ⟨_, _, _, h0, _⟩
    · omega
    · simp at h0
theorem wpList_append_crow {ops : Array Oper} {rest : List Oper} {o : Oper} {a : Act} {w : World} {Q : Exit → Act → World → Prop} (hgd : o.guard = none) (s x : Operand) (t : TypeId)
    (ho : o.op = .call { callee := .builtin .append, args := #[s, x], argTypes := #[t, t] })
    (e : TypeId) (i : TypeInfo) (z : Value) (bytes base : Nat) (ht : Try.prog.underlying t = some (.slice e)) (hi : Try.prog.info? e = some i) (hz : i.zero = some z)
    (hsize : i.size = 1) (hby : i.bytes = bytes) (hzs : z.cells.size = 1) (v : Value) (n : Nat) (xs : List Value) (hs : a.eval s = v) (hown : CRow w base e v n xs)
    (ad : Addr) (c : Nat) (u : Value) (hx : a.eval x = .slice (some ad) 1 c) (hnew : w.cell? ad = some u) (h1 : u.oneCell' = true) (h63 : n + 1 ≤ maxLen) (hbytes : (n + 1) * bytes ≤ 140737488355328) (hbase : base ≤ w.heap.size)
    (hK : ∀ v' w', CRow w' base e v' (n + 1) (xs ++ [u]) → w.grownBy w' v.ownBlock → wpList Try.prog ops Q rest (a.put o.dst v') w') : wpList Try.prog ops Q (o :: rest) a w := by
  refine wpList_plain hgd fun K hK' => ?_
  obtain ⟨v', w', hrun, r, hg⟩ := run_append_crow w t o.type e i z bytes base ht hi hz hsize hby hzs v n xs hown ad c u hnew h1 h63 hbytes hbase
  unfold Oper.wp
  simp [execOp, ho, resolve, invoke, builtin, hs, hx, hrun, Result.andThen]
  exact hK' _ _ (hK v' w' r hg)
end Go.Proofs.Ytgceepjfnncilaa
