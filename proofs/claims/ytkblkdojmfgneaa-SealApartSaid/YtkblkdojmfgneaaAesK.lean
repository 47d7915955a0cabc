/- Package aes: a key's cells. -/
import Derived.Test.YtkblkdojmfgneaaAes3
import Derived.Test.YtkblkdojmfgneaaTyp2
import Derived.Deep.MidRow
namespace Go.Proofs.Ytkblkdojmfgneaa
open Go.RowKit

/-- A key's cells. -/
def kcells (ws : List UInt8) : List Value := .bool true :: (ws ++ boxL).map bval
theorem kcells_len (ws : List UInt8) (h : ws.length = 176) : (kcells ws).length = 433 := by
  simp [kcells, h, boxL_len]
theorem kcells_one (ws : List UInt8) : ((kcells ws).toArray).all (·.oneCell') = true := all_oneCell_toArray (fun v hv => by
  rcases List.mem_cons.1 hv with rfl | hv
  · rfl
  · obtain ⟨n, _, rfl⟩ := List.mem_map.1 hv; rfl)
theorem build_key : Array.foldl (fun cs (x : Value × Nat) => cs.setIfInBounds (177 + x.2) x.1) (Try.zeroCells29.setIfInBounds 0 (Value.bool true)) ((boxL.map bval).toArray).zipIdx 0 ((boxL.map bval).toArray).size = (kcells (List.replicate 176 0)).toArray := by kernel_rfl
theorem nextK_get (l : List UInt8) (t : UInt8) (i : Nat) (h : i < 16) : (nextK l t).getD i 0 =
    if i = 0 then l.getD 0 0 ^^^ subL (l.getD 13 0) ^^^ t else if i < 4 then l.getD i 0 ^^^ subL (l.getD (12 + (i + 1) % 4) 0) else l.getD i 0 ^^^ (nextK l t).getD (i - 4) 0 := by
  have : i = 0 ∨ i = 1 ∨ i = 2 ∨ i = 3 ∨ i = 4 ∨ i = 5 ∨ i = 6 ∨ i = 7 ∨ i = 8 ∨ i = 9 ∨ i = 10 ∨ i = 11 ∨ i = 12 ∨ i = 13 ∨ i = 14 ∨ i = 15 := by omega
  rcases this with rfl | rfl | rfl | rfl | rfl | rfl | rfl | rfl | rfl | rfl | rfl | rfl | rfl | rfl | rfl | rfl <;> rfl
theorem kcells_put (ws vs : List UInt8) (o : Nat) (h : o + vs.length ≤ ws.length) : (kcells ws).take (1 + o) ++ vs.map bval ++ (kcells ws).drop (1 + o + (vs.map bval).length) = kcells (ws.take o ++ vs ++ ws.drop (o + vs.length)) := by
  unfold kcells
  rw [List.length_map, Nat.add_comm 1 o, List.take_succ_cons, show o + 1 + vs.length = (o + vs.length) + 1 by omega, List.drop_succ_cons, ← List.map_take, ← List.map_drop, List.take_append_of_le_length (by omega), List.drop_append_of_le_length (by omega)]
  simp
theorem kcells_get (ws : List UInt8) (o : Nat) (h : o < ws.length) : (kcells ws).toArray[1 + o]? = some (bval (ws.getD o 0)) := by
  unfold kcells
  rw [List.getElem?_toArray, Nat.add_comm 1 o, List.getElem?_cons_succ, List.getElem?_map, List.getElem?_append_left h, List.getD_eq_getElem?_getD, List.getElem?_eq_getElem h]; rfl
theorem kcells_box (ws : List UInt8) (o : Nat) (hw : ws.length = 176) (h : o < 256) : (kcells ws).toArray[177 + o]? = some (bval (boxL.getD o 0)) := by
  unfold kcells
  rw [List.getElem?_toArray, show 177 + o = (176 + o) + 1 by omega, List.getElem?_cons_succ, List.getElem?_map, List.getElem?_append_right (by omega), hw, Nat.add_sub_cancel_left, List.getD_eq_getElem?_getD, List.getElem?_eq_getElem (by rw [boxL_len]; exact h)]; rfl
/-- A whole array read, in a region that draws. -/
theorem rel_load_mid {P : Program} {o : Oper} {a : Act} {w : World} {post : Value → World → Prop} (ty : TypeId) (x : Operand) (ho : o.op = .load ty x)
    (b off : Nat) (hx : a.eval x = .pointer (some ⟨b, off, none⟩)) (cs : List Value) (d : TypeDesc) (hc : w.rangeAt b off cs)
    (hu : P.underlying ty = some d) (hd : d.isRow = true) (hi : (P.info? ty).map (·.size) = some cs.length) (h : post (.agg cs.toArray) w) : relAt P o a w post := by
  unfold relAt execOp
  simp only [ho, hx, Instr.loadAt, Instr.sureAddr, Sem.run_bind, Sem.run_pure, Result.andThen_ok, run_loadVar_mid w b off ty cs d hc hu hd hi]
  exact h
theorem pure_load_mid {P : Program} {o : Oper} {a : Act} {w : World} (ty : TypeId) (x : Operand) (ho : o.op = .load ty x)
    (b off : Nat) (hx : a.eval x = .pointer (some ⟨b, off, none⟩)) (cs : List Value) (d : TypeDesc) (hc : w.rangeAt b off cs)
    (hu : P.underlying ty = some d) (hd : d.isRow = true) (hi : (P.info? ty).map (·.size) = some cs.length) : pureAt P o a w (.agg cs.toArray) := by
  unfold pureAt execOp
  simp only [ho, hx, Instr.loadAt, Instr.sureAddr, Sem.run_bind, Sem.run_pure, Result.andThen_ok, run_loadVar_mid w b off ty cs d hc hu hd hi]
  exact ⟨rfl, rfl⟩
def z16 : Array Value := #[.int .u8 0, .int .u8 0, .int .u8 0, .int .u8 0, .int .u8 0, .int .u8 0, .int .u8 0, .int .u8 0, .int .u8 0, .int .u8 0, .int .u8 0, .int .u8 0, .int .u8 0, .int .u8 0, .int .u8 0, .int .u8 0]
/-- The round keys, up to the r-th. -/
def keysN (key : List UInt8) : Nat → List UInt8
  | 0 => key
  | r + 1 => keysN key r ++ keyR key (r + 1)
theorem keysN_len (key : List UInt8) (h : key.length = 16) : ∀ r, (keysN key r).length = 16 * (r + 1)
  | 0 => h
  | r + 1 => by rw [keysN, List.length_append, keysN_len key h r, keyR_len key h]; omega
theorem keysN_get (key : List UInt8) (h : key.length = 16) (n j : Nat) (hj : j < 16) : ∀ r, n ≤ r → (keysN key r).getD (16 * n + j) 0 = (keyR key n).getD j 0
  | 0, hn => by
    obtain rfl : n = 0 := by omega
    rw [Nat.mul_zero, Nat.zero_add]; rfl
  | r + 1, hn => by
    have hl := keysN_len key h r
    by_cases e : n = r + 1
    · subst e
      rw [keysN, List.getD_eq_getElem?_getD, List.getD_eq_getElem?_getD, List.getElem?_append_right (by omega), hl, Nat.add_sub_cancel_left]
    · have := keysN_get key h n j hj r (by omega)
      rw [keysN, ← this, List.getD_eq_getElem?_getD, List.getD_eq_getElem?_getD, List.getElem?_append_left (by omega)]
/-- The words of a key that is being made: so many round keys behind the first, and so many bytes of the next. -/
structure KW (key ws : List UInt8) (r i : Nat) : Prop where
  len : ws.length = 176
  pre : ws.take (16 * (r + 1) + i) = keysN key r ++ (keyR key (r + 1)).take i
theorem take_get {l m : List UInt8} {n k : Nat} (h : l.take n = m) (hk : k < n) : l.getD k 0 = m.getD k 0 := by
  rw [← h, List.getD_eq_getElem?_getD, List.getD_eq_getElem?_getD, List.getElem?_take_of_lt hk]
theorem KW.old {key ws : List UInt8} {r i n j : Nat} (h : KW key ws r i) (hk : key.length = 16) (hn : n ≤ r) (hj : j < 16) : ws.getD (16 * n + j) 0 = (keyR key n).getD j 0 := by
  have hl := keysN_len key hk r
  rw [take_get h.pre (by omega), List.getD_eq_getElem?_getD, List.getElem?_append_left (by omega), ← List.getD_eq_getElem?_getD, keysN_get key hk n j hj r hn]
theorem KW.new {key ws : List UInt8} {r i j : Nat} (h : KW key ws r i) (hk : key.length = 16) (hj : j < i) (hi : i ≤ 16) : ws.getD (16 * (r + 1) + j) 0 = (keyR key (r + 1)).getD j 0 := by
  have hl := keysN_len key hk r
  have hl2 := keyR_len key hk (r + 1)
  rw [take_get h.pre (by omega), List.getD_eq_getElem?_getD, List.getElem?_append_right (by omega), hl, Nat.add_sub_cancel_left, List.getElem?_take_of_lt hj, ← List.getD_eq_getElem?_getD]
theorem KW.set {key ws : List UInt8} {r i : Nat} (h : KW key ws r i) (hk : key.length = 16) (hi : i < 16) (hr : r < 10) : KW key (ws.set (16 * (r + 1) + i) ((keyR key (r + 1)).getD i 0)) r (i + 1) := by
  have hl2 := keyR_len key hk (r + 1)
  have hws := h.len
  refine ⟨by rw [List.length_set]; exact h.len, ?_⟩
  rw [show 16 * (r + 1) + (i + 1) = (16 * (r + 1) + i) + 1 by omega, List.take_add_one, List.take_set_of_le (Nat.le_refl _), h.pre, List.getElem?_set_self (by omega), List.append_assoc]
  congr 1
  rw [List.take_add_one, List.getD_eq_getElem?_getD, List.getElem?_eq_getElem (by omega : i < (keyR key (r + 1)).length)]
  rfl
theorem KW.next {key ws : List UInt8} {r : Nat} (h : KW key ws r 16) (hk : key.length = 16) : KW key ws (r + 1) 0 := by
  have hl2 := keyR_len key hk (r + 1)
  refine ⟨h.len, ?_⟩
  rw [Nat.add_zero, List.take_zero, List.append_nil, keysN, show 16 * (r + 1 + 1) = 16 * (r + 1) + 16 by omega, h.pre, List.take_of_length_le (by omega : (keyR key (r + 1)).length ≤ 16)]
theorem KW.all {key ws : List UInt8} (h : KW key ws 10 0) : ws = keysN key 10 := by
  have := h.pre
  rw [List.take_of_length_le (by rw [h.len]; omega), List.take_zero, List.append_nil] at this
  exact this
theorem kcells_set (ws : List UInt8) (o : Nat) (c : UInt8) (h : o < ws.length) : ((kcells ws).toArray).setIfInBounds (1 + o) (bval c) = (kcells (ws.set o c)).toArray := by
  unfold kcells
  rw [List.setIfInBounds_toArray, Nat.add_comm 1 o, List.set_cons_succ, List.map_append, List.set_append_left _ _ (by rw [List.length_map]; exact h), ← List.map_set, List.map_append]
theorem results_cell_tmp {P : Program} {fn : Func} {p q : Tmp} {ty : TypeId} (h : fn.results = #[.cell p ty, .tmp q]) (tmps : Array Value) (w : World) (g : Nat) (t : TypeId) (cs : Array Value) (fr : Nat × Nat) (d : TypeDesc) (v : Value)
    (hp : tmps.getD p undef = .pointer (some ⟨g, 0, none⟩)) (hq : tmps.getD q undef = v) (hg : w.heap[g]? = some (.cells cs t fr))
    (hu : P.underlying ty = some d) (hd : (match d with | .struct _ | .array _ _ => true | _ => false) = true) (hi : (P.info? ty).map (·.size) = some cs.size) :
    (results fn tmps).run P w = .ok (.tuple #[.agg cs, v]) w := by
  have hp' : tmps[p]?.getD undef = .pointer (some ⟨g, 0, none⟩) := by simpa using hp
  have hq' : tmps[q]?.getD undef = v := by simpa using hq
  simp [results, h, hp', hq', asAddr, run_loadVar_row w g t ty cs fr d hg hu hd hi]
end Go.Proofs.Ytkblkdojmfgneaa
